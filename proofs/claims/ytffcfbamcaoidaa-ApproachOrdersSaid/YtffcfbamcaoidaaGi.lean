/- Part of a claim: lemmas on the way to its theorem; each states its own conditions. -/
import Derived.Test.YtffcfbamcaoidaaGh
namespace Go.Proofs.Ytffcfbamcaoidaa
open Sym Go.RowKit
noncomputable section
set_option maxRecDepth 100000
set_option maxHeartbeats 4000000

namespace F
abbrev It := List UInt8 × Int × Int × Int
def wk (l : List It) (m : Int) : Int := (l.getD m.toNat ([], 0, 0, 0)).2.1
def rdy (l : List It) (m : Int) : Int := (l.getD m.toNat ([], 0, 0, 0)).2.2.1
def gp (g : List Int) (a b : Int) : Int := g.getD (a.toNat * 4 + b.toNat) 0
def nextF (l : List It) (g : List Int) (i : Int) : List Int → List Int → Int → Int
  | m :: o, s :: ts, t => nextF l g i o ts (max t (s + gp g (wk l m) (wk l i)))
  | _, _, t => t
def nextOk (l : List It) (g : List Int) (order times : List Int) (i : Int) : Prop :=
  (0 ≤ i ∧ i < l.length) ∧ (order.length ≤ times.length ∧ order.length ≤ 1000) ∧ (∀ m ∈ order, 0 ≤ m ∧ m < l.length) ∧ (∀ x ∈ l, 0 ≤ x.2.1 ∧ x.2.1 ≤ 3 ∧ 0 ≤ x.2.2.1 ∧ x.2.2.1 ≤ 200000) ∧ (∀ s ∈ times, 0 ≤ s ∧ s ≤ 1000000000000) ∧ (∀ x ∈ g, 0 ≤ x ∧ x ≤ 1000)
end F


theorem getD_all {α : Type} {p : α → Prop} {l : List α} {d : α} (h : ∀ x ∈ l, p x) (hd : p d) (k : Nat) : p (l.getD k d) := by
  rcases Nat.lt_or_ge k l.length with hk | hk
  · rw [List.getD_eq_getElem?_getD, List.getElem?_eq_getElem hk]
    exact h _ (List.getElem_mem hk)
  · rw [List.getD_eq_getElem?_getD, List.getElem?_eq_none hk]
    exact hd
theorem getD_in {α : Type} {l : List α} {d : α} {k : Nat} (hk : k < l.length) : l.getD k d ∈ l := by
  rw [List.getD_eq_getElem?_getD, List.getElem?_eq_getElem hk]
  exact List.getElem_mem hk
theorem gp_bd {g : List Int} (h : ∀ x ∈ g, 0 ≤ x ∧ x ≤ 1000) (a b : Int) : 0 ≤ F.gp g a b ∧ F.gp g a b ≤ 1000 := getD_all (p := fun x => 0 ≤ x ∧ x ≤ 1000) h (by omega) _


def cuts_next : Cuts := [(3, [9, 3, 0, 2, 19, 20, 21, 11], 4)]

theorem next_t0 (l : List (List UInt8 × Int × Int × Int)) (l_t : Bool) (order : List Int) (order_t : Bool) (times : List Int) (times_t : Bool) (i : Int) (g0 g1 g2 g3 g4 g5 g6 g7 g8 g9 g10 g11 g12 g13 g14 g15 : Int) : symF C_aerr cuts_next Try.f73.results.toList 3 400 [.code (codeOf Try.f73)] ⟨argsS Try.f73 [.c (.slc 0 0 (List.length l) l_t), .c (.slc 1 0 (List.length order) order_t), .c (.slc 2 0 (List.length times) times_t), .c (.int .i64 i), .agg [.int .i64 g0, .int .i64 g1, .int .i64 g2, .int .i64 g3, .int .i64 g4, .int .i64 g5, .int .i64 g6, .int .i64 g7, .int .i64 g8, .int .i64 g9, .int .i64 g10, .int .i64 g11, .int .i64 g12, .int .i64 g13, .int .i64 g14, .int .i64 g15]], ([.inp 7 l, .inp 0 order, .inp 0 times] : Heap cod)⟩ =
.need (((0 : Int) ≤ i ∧ i < Int.ofNat (List.length l))) (
.need (0 + Int.toNat i < List.length l) (
.ret (.cut (cutAt Try.f73 3) ⟨tmG 26 [(0, .c (.slc 0 0 (List.length l) l_t)), (1, .c (.slc 2 0 (List.length times) times_t)), (0, .c (.int .i64 i)), (5, .c (.ptr 3 0 0)), (1, .c (.int .i64 ((List.getD l (0 + Int.toNat i) (cod 7).d).2.2.1))), (7, .c (.slc 1 0 (List.length order) order_t)), (0, .c (.int .i64 (Int.ofNat (List.length order)))), (0, .c (.int .i64 0))], [.inp 7 l, .inp 0 order, .inp 0 times, .arr 0 ([g0, g1, g2, g3, g4, g5, g6, g7, g8, g9, g10, g11, g12, g13, g14, g15]) 43]⟩))) := by kernel_rfl


noncomputable def st_next_3 (l : List (List UInt8 × Int × Int × Int)) (l_t : Bool) (order : List Int) (order_t : Bool) (times : List Int) (times_t : Bool) (i : Int) (g0 g1 g2 g3 g4 g5 g6 g7 g8 g9 g10 g11 g12 g13 g14 g15 : Int) (t k : Int) : St cod := ⟨tmG 26 [(0, .c (.slc 0 0 (List.length l) l_t)), (1, .c (.slc 2 0 (List.length times) times_t)), (0, .c (.int .i64 i)), (5, .c (.ptr 3 0 0)), (1, .c (.int .i64 t)), (7, .c (.slc 1 0 (List.length order) order_t)), (0, .c (.int .i64 (Int.ofNat (List.length order)))), (0, .c (.int .i64 k))], [.inp 7 l, .inp 0 order, .inp 0 times, .arr 0 ([g0, g1, g2, g3, g4, g5, g6, g7, g8, g9, g10, g11, g12, g13, g14, g15]) 43]⟩


theorem next_t3 (l : List (List UInt8 × Int × Int × Int)) (l_t : Bool) (order : List Int) (order_t : Bool) (times : List Int) (times_t : Bool) (i : Int) (g0 g1 g2 g3 g4 g5 g6 g7 g8 g9 g10 g11 g12 g13 g14 g15 : Int) (t k : Int) : symF C_aerr cuts_next Try.f73.results.toList 3 400 (cutAt Try.f73 3) (st_next_3 l l_t order order_t times times_t i g0 g1 g2 g3 g4 g5 g6 g7 g8 g9 g10 g11 g12 g13 g14 g15 t k) =
 cond (decide (k < Int.ofNat (List.length order))) (
 .need (((0 : Int) ≤ k ∧ k < Int.ofNat (List.length order))) (
 .need (0 + Int.toNat k < List.length order) (
 .need (((0 : Int) ≤ k ∧ k < Int.ofNat (List.length times))) (
 .need (0 + Int.toNat k < List.length times) (
 .need (((0 : Int) ≤ List.getD order (0 + Int.toNat k) (cod 0).d ∧ List.getD order (0 + Int.toNat k) (cod 0).d < Int.ofNat (List.length l))) (
 .need (0 + Int.toNat (List.getD order (0 + Int.toNat k) (cod 0).d) < List.length l) (
 .need (((0 : Int) ≤ i ∧ i < Int.ofNat (List.length l))) (
 .need (0 + Int.toNat i < List.length l) (
 .need (((0 : Int) ≤ (List.getD l (0 + Int.toNat (List.getD order (0 + Int.toNat k) (cod 0).d)) (cod 7).d).2.1 ∧ (List.getD l (0 + Int.toNat (List.getD order (0 + Int.toNat k) (cod 0).d)) (cod 7).d).2.1 < Int.ofNat 4)) (
 .need (((0 : Int) ≤ (List.getD l (0 + Int.toNat i) (cod 7).d).2.1 ∧ (List.getD l (0 + Int.toNat i) (cod 7).d).2.1 < Int.ofNat 4)) (
 .need (0 + Int.toNat (List.getD l (0 + Int.toNat (List.getD order (0 + Int.toNat k) (cod 0).d)) (cod 7).d).2.1 * (4 / 1) +     Int.toNat (List.getD l (0 + Int.toNat i) (cod 7).d).2.1 <   16) (
 .need (i64ok   (List.getD times (0 + Int.toNat k) (cod 0).d +     List.getD [g0, g1, g2, g3, g4, g5, g6, g7, g8, g9, g10, g11, g12, g13, g14, g15]       (0 +           Int.toNat (List.getD l (0 + Int.toNat (List.getD order (0 + Int.toNat k) (cod 0).d)) (cod 7).d).2.1 *             (4 / 1) +         Int.toNat (List.getD l (0 + Int.toNat i) (cod 7).d).2.1)       (cod 0).d)) (
 .need (i64ok (k + 1)) (
 .ret (.cut (cutAt Try.f73 3) ⟨tmG 26 [(0, .c (.slc 0 0 (List.length l) l_t)), (1, .c (.slc 2 0 (List.length times) times_t)), (0, .c (.int .i64 i)), (5, .c (.ptr 3 0 0)), (1, .c (.int .i64 (max t   (List.getD times (0 + Int.toNat k) (cod 0).d +     List.getD [g0, g1, g2, g3, g4, g5, g6, g7, g8, g9, g10, g11, g12, g13, g14, g15]       (0 +           Int.toNat (List.getD l (0 + Int.toNat (List.getD order (0 + Int.toNat k) (cod 0).d)) (cod 7).d).2.1 *             (4 / 1) +         Int.toNat (List.getD l (0 + Int.toNat i) (cod 7).d).2.1)       (cod 0).d)))), (7, .c (.slc 1 0 (List.length order) order_t)), (0, .c (.int .i64 (Int.ofNat (List.length order)))), (0, .c (.int .i64 (k + 1)))], [.inp 7 l, .inp 0 order, .inp 0 times, .arr 0 [g0, g1, g2, g3, g4, g5, g6, g7, g8, g9, g10, g11, g12, g13, g14, g15] 43]⟩))))))))))))))) (
 .ret (.fin (.c (.int .i64 t)) [])) := by kernel_rfl



theorem next_loop (l : List F.It) (l_t : Bool) (order : List Int) (order_t : Bool) (times : List Int) (times_t : Bool) (i : Int) (g0 g1 g2 g3 g4 g5 g6 g7 g8 g9 g10 g11 g12 g13 g14 g15 : Int) (hok : F.nextOk l [g0, g1, g2, g3, g4, g5, g6, g7, g8, g9, g10, g11, g12, g13, g14, g15] order times i) (b0 : Base) (hb : b0.n = 3) (u : Int) : ∀ (m : Nat) (k t : Int), 0 ≤ k → k + m = order.length → u = F.nextF l [g0, g1, g2, g3, g4, g5, g6, g7, g8, g9, g10, g11, g12, g13, g14, g15] i (order.drop k.toNat) (times.drop k.toNat) t →
    Sym.Runs Try.prog b0 (cutAt Try.f73 3) (st_next_3 l l_t order order_t times times_t i g0 g1 g2 g3 g4 g5 g6 g7 g8 g9 g10 g11 g12 g13 g14 g15 t k) (Sym.Ends Try.prog Try.f73 3 (.c (.int .i64 u)) []) := by
  have hd : (cod 7).d = (([], 0, 0, 0) : F.It) := rfl
  have hd0 : (cod 0).d = (0 : Int) := rfl
  obtain ⟨hi, hlen, ho, hl, ht, hg⟩ := hok
  intro m
  induction m with
  | zero =>
    intro k t h0 hm hu
    refine Runs.go (cfg := C_aerr) L_aerr_ok mixed cuts_next 400 hb (next_t3 l l_t order order_t times times_t i g0 g1 g2 g3 g4 g5 g6 g7 g8 g9 g10 g11 g12 g13 g14 g15 t k) ?_
    have h1 : ¬ k < (order.length : Int) := by omega
    rw [drop_end order h1] at hu
    simp only [F.nextF] at hu
    simp only [T.wp, T.wp_cond, Aft, Int.ofNat_eq_natCast, decide_eq_true_eq, and_true, true_and, Nat.zero_add, Bool.not_eq_true', decide_eq_false_iff_not, h1, if_false, hu]
  | succ m ih =>
    intro k t h0 hm hu
    refine Runs.go (cfg := C_aerr) L_aerr_ok mixed cuts_next 400 hb (next_t3 l l_t order order_t times times_t i g0 g1 g2 g3 g4 g5 g6 g7 g8 g9 g10 g11 g12 g13 g14 g15 t k) ?_
    have h1 : k < (order.length : Int) := by omega
    have h2 : k < (times.length : Int) := by omega
    rw [drop_at order 0 h0 h1, drop_at times 0 h0 h2] at hu
    simp only [F.nextF] at hu
    have nx := ih (k + 1) (max t (times.getD k.toNat 0 + F.gp [g0, g1, g2, g3, g4, g5, g6, g7, g8, g9, g10, g11, g12, g13, g14, g15] (F.wk l (order.getD k.toNat 0)) (F.wk l i))) (by omega) (by omega) hu
    simp only [T.wp, T.wp_cond, Aft, Int.ofNat_eq_natCast, decide_eq_true_eq, and_true, true_and, Nat.zero_add, Bool.not_eq_true', decide_eq_false_iff_not, h1, if_true, hd, hd0, Nat.reduceDiv]
    have q1 := ho _ (getD_in (l := order) (d := 0) (k := k.toNat) (by omega))
    have q2 := ht _ (getD_in (l := times) (d := 0) (k := k.toNat) (by omega))
    have q3 := hl _ (getD_in (l := l) (d := ([], 0, 0, 0)) (k := (order.getD k.toNat 0).toNat) (by omega))
    have q4 := hl _ (getD_in (l := l) (d := ([], 0, 0, 0)) (k := i.toNat) (by omega))
    have q5 := gp_bd hg (F.wk l (order.getD k.toNat 0)) (F.wk l i)
    unfold F.wk F.gp at q5 nx
    (repeat (refine ⟨(by first | omega | (unfold i64ok; omega) | (simp only [List.length_cons, List.length_nil]; omega)), ?_⟩))
    exact nx
theorem next_run (l : List (List UInt8 × Int × Int × Int)) (l_t : Bool) (order : List Int) (order_t : Bool) (times : List Int) (times_t : Bool) (i : Int) (g0 g1 g2 g3 g4 g5 g6 g7 g8 g9 g10 g11 g12 g13 g14 g15 : Int) (b0 : Base) (hb : b0.n = 3) (h0 : F.nextOk l [g0, g1, g2, g3, g4, g5, g6, g7, g8, g9, g10, g11, g12, g13, g14, g15] order times i) : Sym.Runs Try.prog b0 [.code (codeOf Try.f73)] ⟨argsS Try.f73 [.c (.slc 0 0 (List.length l) l_t), .c (.slc 1 0 (List.length order) order_t), .c (.slc 2 0 (List.length times) times_t), .c (.int .i64 i), .agg [.int .i64 g0, .int .i64 g1, .int .i64 g2, .int .i64 g3, .int .i64 g4, .int .i64 g5, .int .i64 g6, .int .i64 g7, .int .i64 g8, .int .i64 g9, .int .i64 g10, .int .i64 g11, .int .i64 g12, .int .i64 g13, .int .i64 g14, .int .i64 g15]], ([.inp 7 l, .inp 0 order, .inp 0 times] : Heap cod)⟩ (Sym.Ends Try.prog Try.f73 3 (.c (.int .i64 (F.nextF l [g0, g1, g2, g3, g4, g5, g6, g7, g8, g9, g10, g11, g12, g13, g14, g15] i order times (F.rdy l i)))) []) := by
  refine Runs.go (cfg := C_aerr) L_aerr_ok mixed cuts_next 400 hb (next_t0 l l_t order order_t times times_t i g0 g1 g2 g3 g4 g5 g6 g7 g8 g9 g10 g11 g12 g13 g14 g15) ?_
  have hd : (cod 7).d = (([], 0, 0, 0) : F.It) := rfl
  have hi := h0.1
  simp only [T.wp, T.wp_cond, Aft, Int.ofNat_eq_natCast, decide_eq_true_eq, and_true, true_and, Nat.zero_add, Bool.not_eq_true', decide_eq_false_iff_not, hd]
  refine ⟨hi, by omega, ?_⟩
  exact next_loop l l_t order order_t times times_t i g0 g1 g2 g3 g4 g5 g6 g7 g8 g9 g10 g11 g12 g13 g14 g15 h0 b0 hb _ order.length 0 _ (by omega) (by omega) rfl



noncomputable def s_next : Summ cod := fun args H => match args, H with
  | [.c (.slc 0 l_i l_n l_t), .c (.slc 1 order_i order_n order_t), .c (.slc 2 times_i times_n times_t), .c (.int .i64 i), .agg [.int .i64 g0, .int .i64 g1, .int .i64 g2, .int .i64 g3, .int .i64 g4, .int .i64 g5, .int .i64 g6, .int .i64 g7, .int .i64 g8, .int .i64 g9, .int .i64 g10, .int .i64 g11, .int .i64 g12, .int .i64 g13, .int .i64 g14, .int .i64 g15]], [o0, o1, o2] => (match o0.asInp 7 with | some l => (match o1.asInp 0 with | some order => (match o2.asInp 0 with | some times => .need ((l_i = 0 ∧ l_n = List.length l) ∧ (order_i = 0 ∧ order_n = List.length order) ∧ (times_i = 0 ∧ times_n = List.length times) ∧ (F.nextOk l [g0, g1, g2, g3, g4, g5, g6, g7, g8, g9, g10, g11, g12, g13, g14, g15] order times i)) (.ret (.c (.int .i64 (F.nextF l [g0, g1, g2, g3, g4, g5, g6, g7, g8, g9, g10, g11, g12, g13, g14, g15] i order times (F.rdy l i))), [])) | none => .fail) | none => .fail) | none => .fail)
  | _, _ => .fail


theorem next_sound : Sound Try.prog cod 73 s_next := sound_runs (cfg := C_aerr) L_aerr_ok mixed Try.func73 rfl rfl _ fun args H r news hg b0 hb => by
  unfold s_next at hg
  split at hg
  · skip
    split at hg
    · rename_i l hx0
      cases asInp_spec hx0
      split at hg
      · rename_i order hx1
        cases asInp_spec hx1
        split at hg
        · rename_i times hx2
          cases asInp_spec hx2
          simp only [T.gives, T.wp, Prod.mk.injEq] at hg
          obtain ⟨⟨⟨rfl, rfl⟩, ⟨rfl, rfl⟩, ⟨rfl, rfl⟩, q3⟩, rfl, rfl⟩ := hg
          exact next_run _ _ _ _ _ _ _ _ _ _ _ _ _ _ _ _ _ _ _ _ _ _ _ b0 hb (by assumption)
        · exact hg.elim
      · exact hg.elim
    · exact hg.elim
  · exact hg.elim

noncomputable def L_next : Sums cod := (73, .p s_next) :: L_aerr
noncomputable def C_next : Cfg cod := mkC L_next

theorem L_next_ok : Snd Try.prog cod L_next := .cons next_sound L_aerr_ok


end
end Go.Proofs.Ytffcfbamcaoidaa
