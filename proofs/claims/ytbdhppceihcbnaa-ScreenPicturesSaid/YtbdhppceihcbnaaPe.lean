/- Part of a claim: lemmas on the way to its theorem; each states its own conditions. -/
import Derived.Test.YtbdhppceihcbnaaPd
import Derived.Test.YtbdhppceihcbnaaSym30
namespace Go.Proofs.Ytbdhppceihcbnaa
open Sym Go.RowKit
noncomputable section
set_option maxRecDepth 100000
set_option maxHeartbeats 4000000



namespace F
def ptsE : List (Int × Int) → Int
  | [] => 0
  | q :: t => if pt q.1 q.2 = 0 then ptsE t else pt q.1 q.2
def polE (p : List (Int × Int)) : Int := if 16 < p.length then 2 else ptsE p
def polsE : List (List (Int × Int)) → Int
  | [] => 0
  | p :: t => if polE p = 0 then polsE t else polE p
def picE (cx cy s w h : Int) (l : List (List (Int × Int))) (ps : List (Int × Int)) : Int := if vE cx cy s w h = 0 then (if polsE l = 0 then ptsE ps else polsE l) else vE cx cy s w h
end F


def cuts_sck : Cuts := [(7, [29, 2, 30, 31], 2), (100008, [29, 2, 30, 31], 3), (12, [38, 29, 2, 30, 31, 39, 40], 3), (100018, [29, 2, 30, 31], 3), (20, [51, 52, 53], 2)]
def cuts_sck_r8 : Cuts := [(7, [29, 2, 30, 31], 2), (12, [38, 29, 2, 30, 31, 39, 40], 3), (100018, [29, 2, 30, 31], 3), (20, [51, 52, 53], 2)]
def cuts_sck_r8b : Cuts := [(7, [29, 2, 30, 31], 2), (12, [38, 29, 2, 30, 31, 39, 40], 3), (100018, [29, 2, 30, 31], 3), (20, [51, 52, 53], 2)]
def cuts_sck_r18 : Cuts := [(7, [29, 2, 30, 31], 2), (100008, [29, 2, 30, 31], 3), (12, [38, 29, 2, 30, 31, 39, 40], 3), (20, [51, 52, 53], 2)]

theorem sck_t0 (cx cy s w h : Int) (l : List (List (Int × Int))) (l_t : Bool) (p : List (Int × Int)) (p_t : Bool) : symF C_rep cuts_sck Try.f9.results.toList 2 400 [.code (codeOf Try.f9)] ⟨argsS Try.f9 [.agg [.int .i64 cx, .int .i64 cy, .int .i64 s, .int .i64 w, .int .i64 h], .c (.slc 0 0 (List.length l) l_t), .c (.slc 1 0 (List.length p) p_t)], ([.nin 1 l none, .inp 1 p] : Heap cod)⟩ =
 cond (!decide (F.vE cx cy s w h = 0)) (
 .ret (.fin (.c (.int .i64 (F.vE cx cy s w h))) [])) (
 cond (decide (12 < Int.ofNat (List.length l))) (
  .ret (.fin (.c (.int .i64 2)) [])) (
  cond (decide (32 < Int.ofNat (List.length p))) (
   .ret (.fin (.c (.int .i64 2)) [])) (
   .ret (.cut (cutAt Try.f9 7) ⟨tmG 31 [(2, .c (.slc 1 0 (List.length p) p_t)), (26, .c (.slc 0 0 (List.length l) l_t)), (0, .c (.int .i64 (Int.ofNat (List.length l)))), (0, .c (.int .i64 0))], [.nin 1 (l) none, .inp 1 p]⟩)))) := by kernel_rfl


noncomputable def st_sck_7 (cx cy s w h : Int) (l : List (List (Int × Int))) (l_t : Bool) (p : List (Int × Int)) (p_t : Bool) (i : Int) : St cod := ⟨tmG 31 [(2, .c (.slc 1 0 (List.length p) p_t)), (26, .c (.slc 0 0 (List.length l) l_t)), (0, .c (.int .i64 (Int.ofNat (List.length l)))), (0, .c (.int .i64 i))], [.nin 1 (l) none, .inp 1 p]⟩


theorem sck_t7 (cx cy s w h : Int) (l : List (List (Int × Int))) (l_t : Bool) (p : List (Int × Int)) (p_t : Bool) (i : Int) : symF C_rep cuts_sck Try.f9.results.toList 2 400 (cutAt Try.f9 7) (st_sck_7 cx cy s w h l l_t p p_t i) =
 cond (decide (i < Int.ofNat (List.length l))) (
 .ret (.cut (regAt Try.f9 8) ⟨tmG 31 [(2, .c (.slc 1 0 (List.length p) p_t)), (26, .c (.slc 0 0 (List.length l) l_t)), (0, .c (.int .i64 (Int.ofNat (List.length l)))), (0, .c (.int .i64 i))], [.nin 1 (l) none, .inp 1 p]⟩)) (
 .ret (.cut (cutAt Try.f9 20) ⟨tmG 9 [(51, .c (.slc 1 0 (List.length p) p_t)), (0, .c (.int .i64 (Int.ofNat (List.length p)))), (0, .c (.int .i64 0))], [.nin 1 (l) none, .inp 1 p]⟩)) := by kernel_rfl


noncomputable def st_sck_r8 (cx cy s w h : Int) (l : List (List (Int × Int))) (l_t : Bool) (p : List (Int × Int)) (p_t : Bool) (i : Int) : St cod := ⟨tmG 31 [(2, .c (.slc 1 0 (List.length p) p_t)), (26, .c (.slc 0 0 (List.length l) l_t)), (0, .c (.int .i64 (Int.ofNat (List.length l)))), (0, .c (.int .i64 i))], [.nin 1 (l) none, .inp 1 p]⟩


noncomputable def st_sck_r8b (cx cy s w h : Int) (l : List (List (Int × Int))) (l_t : Bool) (p : List (Int × Int)) (p_t : Bool) (i : Int) (j : Nat) (q : List (Int × Int)) : St cod := ⟨tmG 31 [(2, .c (.slc 1 0 (List.length p) p_t)), (26, .c (.slc 0 0 (List.length l) l_t)), (0, .c (.int .i64 (Int.ofNat (List.length l)))), (0, .c (.int .i64 i))], ([.nin 1 l (some (j, .slc 2 0 (List.length q) false)), .inp 1 p, .inp 1 q] : Heap cod)⟩


theorem sck_tr8b (cx cy s w h : Int) (l : List (List (Int × Int))) (l_t : Bool) (p : List (Int × Int)) (p_t : Bool) (i : Int) (j : Nat) (q : List (Int × Int)) : symF C_rep cuts_sck_r8b Try.f9.results.toList 2 400 (regAt Try.f9 8) (st_sck_r8b cx cy s w h l l_t p p_t i j q) =
.need (((0 : Int) ≤ i ∧ i < Int.ofNat (List.length l))) (
.need ((0 + Int.toNat i = j ∧ j < List.length l)) (
 cond (decide (16 < Int.ofNat (List.length q))) (
 .ret (.fin (.c (.int .i64 2)) [])) (
 .ret (.cut (cutAt Try.f9 12) ⟨tmG 22 [(2, .c (.slc 1 0 (List.length p) p_t)), (26, .c (.slc 0 0 (List.length l) l_t)), (0, .c (.int .i64 (Int.ofNat (List.length l)))), (0, .c (.int .i64 i)), (6, .c (.slc 2 0 (List.length q) false)), (0, .c (.int .i64 (Int.ofNat (List.length q)))), (0, .c (.int .i64 0))], [.nin 1 (l) (some ((j), .slc 2 0 (List.length q) false)), .inp 1 p, .inp 1 q]⟩)))) := by kernel_rfl


noncomputable def st_sck_12 (cx cy s w h : Int) (l : List (List (Int × Int))) (l_t : Bool) (p : List (Int × Int)) (p_t : Bool) (i : Int) (j : Nat) (q : List (Int × Int)) (k : Int) : St cod := ⟨tmG 22 [(2, .c (.slc 1 0 (List.length p) p_t)), (26, .c (.slc 0 0 (List.length l) l_t)), (0, .c (.int .i64 (Int.ofNat (List.length l)))), (0, .c (.int .i64 i)), (6, .c (.slc 2 0 (List.length q) false)), (0, .c (.int .i64 (Int.ofNat (List.length q)))), (0, .c (.int .i64 k))], [.nin 1 (l) (some ((j), .slc 2 0 (List.length q) false)), .inp 1 p, .inp 1 q]⟩


theorem sck_t12 (cx cy s w h : Int) (l : List (List (Int × Int))) (l_t : Bool) (p : List (Int × Int)) (p_t : Bool) (i : Int) (j : Nat) (q : List (Int × Int)) (k : Int) : symF C_rep cuts_sck Try.f9.results.toList 2 400 (cutAt Try.f9 12) (st_sck_12 cx cy s w h l l_t p p_t i j q k) =
 cond (decide (k < Int.ofNat (List.length q))) (
 .need (((0 : Int) ≤ k ∧ k < Int.ofNat (List.length q))) (
 .need (0 + Int.toNat k < List.length q) (
 cond (!decide (F.pt (List.getD q (0 + Int.toNat k) (cod 1).d).1 (List.getD q (0 + Int.toNat k) (cod 1).d).2 = 0)) (
  .ret (.fin (.c (.int .i64 (F.pt (List.getD q (0 + Int.toNat k) (cod 1).d).1 (List.getD q (0 + Int.toNat k) (cod 1).d).2))) [])) (
  .need (i64ok (k + 1)) (
  .ret (.cut (cutAt Try.f9 12) ⟨tmG 22 [(2, .c (.slc 1 0 (List.length p) p_t)), (26, .c (.slc 0 0 (List.length l) l_t)), (0, .c (.int .i64 (Int.ofNat (List.length l)))), (0, .c (.int .i64 i)), (6, .c (.slc 2 0 (List.length q) false)), (0, .c (.int .i64 (Int.ofNat (List.length q)))), (0, .c (.int .i64 (k + 1)))], [.nin 1 (l) (some ((j), .slc 2 0 (List.length q) false)), .inp 1 p, .inp 1 q]⟩)))))) (
 .ret (.cut (regAt Try.f9 18) ⟨tmG 31 [(2, .c (.slc 1 0 (List.length p) p_t)), (26, .c (.slc 0 0 (List.length l) l_t)), (0, .c (.int .i64 (Int.ofNat (List.length l)))), (0, .c (.int .i64 i))], [.nin 1 (l) (some ((j), .slc 2 0 (List.length q) false)), .inp 1 p, .inp 1 q]⟩)) := by kernel_rfl


noncomputable def st_sck_r18 (cx cy s w h : Int) (l : List (List (Int × Int))) (l_t : Bool) (p : List (Int × Int)) (p_t : Bool) (i : Int) : St cod := ⟨tmG 31 [(2, .c (.slc 1 0 (List.length p) p_t)), (26, .c (.slc 0 0 (List.length l) l_t)), (0, .c (.int .i64 (Int.ofNat (List.length l)))), (0, .c (.int .i64 i))], [.nin 1 (l) none, .inp 1 p]⟩


theorem sck_tr18 (cx cy s w h : Int) (l : List (List (Int × Int))) (l_t : Bool) (p : List (Int × Int)) (p_t : Bool) (i : Int) : symF C_rep cuts_sck_r18 Try.f9.results.toList 2 400 (regAt Try.f9 18) (st_sck_r18 cx cy s w h l l_t p p_t i) =
.need (i64ok (i + 1)) (
.ret (.cut (cutAt Try.f9 7) ⟨tmG 31 [(2, .c (.slc 1 0 (List.length p) p_t)), (26, .c (.slc 0 0 (List.length l) l_t)), (0, .c (.int .i64 (Int.ofNat (List.length l)))), (0, .c (.int .i64 (i + 1)))], [.nin 1 (l) none, .inp 1 p]⟩)) := by kernel_rfl


noncomputable def st_sck_20 (cx cy s w h : Int) (l : List (List (Int × Int))) (l_t : Bool) (p : List (Int × Int)) (p_t : Bool) (k : Int) : St cod := ⟨tmG 9 [(51, .c (.slc 1 0 (List.length p) p_t)), (0, .c (.int .i64 (Int.ofNat (List.length p)))), (0, .c (.int .i64 k))], [.nin 1 (l) none, .inp 1 p]⟩


theorem sck_t20 (cx cy s w h : Int) (l : List (List (Int × Int))) (l_t : Bool) (p : List (Int × Int)) (p_t : Bool) (k : Int) : symF C_rep cuts_sck Try.f9.results.toList 2 400 (cutAt Try.f9 20) (st_sck_20 cx cy s w h l l_t p p_t k) =
 cond (decide (k < Int.ofNat (List.length p))) (
 .need (((0 : Int) ≤ k ∧ k < Int.ofNat (List.length p))) (
 .need (0 + Int.toNat k < List.length p) (
 cond (!decide (F.pt (List.getD p (0 + Int.toNat k) (cod 1).d).1 (List.getD p (0 + Int.toNat k) (cod 1).d).2 = 0)) (
  .ret (.fin (.c (.int .i64 (F.pt (List.getD p (0 + Int.toNat k) (cod 1).d).1 (List.getD p (0 + Int.toNat k) (cod 1).d).2))) [])) (
  .need (i64ok (k + 1)) (
  .ret (.cut (cutAt Try.f9 20) ⟨tmG 9 [(51, .c (.slc 1 0 (List.length p) p_t)), (0, .c (.int .i64 (Int.ofNat (List.length p)))), (0, .c (.int .i64 (k + 1)))], [.nin 1 (l) none, .inp 1 p]⟩)))))) (
 .ret (.fin (.c (.int .i64 0)) [])) := by kernel_rfl



theorem dropc {α : Type} (l : List α) (d : α) (k : Nat) (h : k < l.length) : l.drop k = l.getD k d :: l.drop (k + 1) := by
  rw [List.drop_eq_getElem_cons h, List.getD_eq_getElem?_getD, List.getElem?_eq_getElem h]
  rfl
theorem sck_l20 (cx cy s w h : Int) (l : List (List (Int × Int))) (l_t : Bool) (p : List (Int × Int)) (p_t : Bool) (b0 : Base) (hb : b0.n = 2) (h32 : p.length ≤ 32) (R : Int) : ∀ (r k : Nat), k + r = p.length → R = F.ptsE (p.drop k) → Sym.Runs Try.prog b0 (cutAt Try.f9 20) (st_sck_20 cx cy s w h l l_t p p_t (k : Int)) (Sym.Ends Try.prog Try.f9 2 (.c (.int .i64 R)) []) := by
  have ed : (cod 1).d = ((0, 0) : Int × Int) := rfl
  intro r
  induction r with
  | zero =>
    intro k hk hR
    rw [List.drop_eq_nil_of_le (by omega), F.ptsE] at hR
    subst hR
    refine Runs.go (cfg := C_rep) L_rep_ok mixed cuts_sck 400 hb (sck_t20 cx cy s w h l l_t p p_t (k : Int)) ?_
    simp only [T.wp, T.wp_cond, Aft, Int.ofNat_eq_natCast, decide_eq_true_eq, and_true, Nat.zero_add, Bool.not_eq_true', decide_eq_false_iff_not]
    exact ite_no (by omega) trivial
  | succ r ih =>
    intro k hk hR
    have nx := ih (k + 1) (by omega)
    rw [dropc p (0, 0) k (by omega), F.ptsE] at hR
    rw [Int.natCast_succ] at nx
    refine Runs.go (cfg := C_rep) L_rep_ok mixed cuts_sck 400 hb (sck_t20 cx cy s w h l l_t p p_t (k : Int)) ?_
    simp only [T.wp, T.wp_cond, Aft, Int.ofNat_eq_natCast, decide_eq_true_eq, and_true, Nat.zero_add, Bool.not_eq_true', decide_eq_false_iff_not, Int.toNat_natCast, ed]
    generalize p.getD k (0, 0) = a at *
    refine ite_yes (by omega) ⟨⟨by omega, by omega⟩, by omega, ?_⟩
    by_cases c : F.pt a.1 a.2 = 0
    · rw [if_pos c] at hR
      exact ite_no (fun h => h c) ⟨by unfold i64ok; omega, nx hR⟩
    · rw [if_neg c] at hR
      subst hR
      exact ite_yes c rfl
theorem sck_l12 (cx cy s w h : Int) (l : List (List (Int × Int))) (l_t : Bool) (p : List (Int × Int)) (p_t : Bool) (b0 : Base) (hb : b0.n = 2) (R : Int) (i : Nat) (hi : i ≤ 12) (q : List (Int × Int)) (h16 : q.length ≤ 16) (nx : F.ptsE q = 0 → Sym.Runs Try.prog b0 (cutAt Try.f9 7) (st_sck_7 cx cy s w h l l_t p p_t ((i : Int) + 1)) (Sym.Ends Try.prog Try.f9 2 (.c (.int .i64 R)) [])) (bad : F.ptsE q ≠ 0 → R = F.ptsE q) :
    ∀ (r k : Nat), k + r = q.length → F.ptsE q = F.ptsE (q.drop k) → Sym.Runs Try.prog b0 (cutAt Try.f9 12) (st_sck_12 cx cy s w h l l_t p p_t (i : Int) i q (k : Int)) (Sym.Ends Try.prog Try.f9 2 (.c (.int .i64 R)) []) := by
  have ed : (cod 1).d = ((0, 0) : Int × Int) := rfl
  intro r
  induction r with
  | zero =>
    intro k hk hR
    rw [List.drop_eq_nil_of_le (by omega)] at hR
    refine Runs.go (cfg := C_rep) L_rep_ok mixed cuts_sck 400 hb (sck_t12 cx cy s w h l l_t p p_t (i : Int) i q (k : Int)) ?_
    simp only [T.wp, T.wp_cond, Aft, Int.ofNat_eq_natCast, decide_eq_true_eq, and_true, Nat.zero_add, Bool.not_eq_true', decide_eq_false_iff_not]
    refine ite_no (by omega) (Runs.close 0 rfl ?_)
    refine Runs.weaken (st' := st_sck_r18 cx cy s w h l l_t p p_t (i : Int)) (fun a w hR => fit_rel [29, 2, 30, 31] 2 (by omega) hR) ?_
    refine Runs.go (cfg := C_rep) L_rep_ok mixed cuts_sck_r18 400 hb (sck_tr18 cx cy s w h l l_t p p_t (i : Int)) ?_
    simp only [T.wp, Aft, Int.ofNat_eq_natCast]
    exact ⟨by unfold i64ok; omega, nx hR⟩
  | succ r ih =>
    intro k hk hR
    have nx2 := ih (k + 1) (by omega)
    rw [Int.natCast_succ] at nx2
    have hd := dropc q (0, 0) k (by omega)
    refine Runs.go (cfg := C_rep) L_rep_ok mixed cuts_sck 400 hb (sck_t12 cx cy s w h l l_t p p_t (i : Int) i q (k : Int)) ?_
    simp only [T.wp, T.wp_cond, Aft, Int.ofNat_eq_natCast, decide_eq_true_eq, and_true, Nat.zero_add, Bool.not_eq_true', decide_eq_false_iff_not, Int.toNat_natCast, ed]
    rw [hd, F.ptsE] at hR
    generalize q.getD k (0, 0) = a at *
    refine ite_yes (by omega) ⟨⟨by omega, by omega⟩, by omega, ?_⟩
    by_cases c : F.pt a.1 a.2 = 0
    · rw [if_pos c] at hR
      exact ite_no (fun h => h c) ⟨by unfold i64ok; omega, nx2 hR⟩
    · rw [if_neg c] at hR
      have := bad (by rw [hR]; exact c)
      rw [hR] at this
      subst this
      exact ite_yes c rfl
theorem sck_run (cx cy s w h : Int) (l : List (List (Int × Int))) (l_t : Bool) (p : List (Int × Int)) (p_t : Bool) (b0 : Base) (hb : b0.n = 2) (h0 : l.length ≤ 12) (h1 : p.length ≤ 32) : Sym.Runs Try.prog b0 [.code (codeOf Try.f9)] ⟨argsS Try.f9 [.agg [.int .i64 cx, .int .i64 cy, .int .i64 s, .int .i64 w, .int .i64 h], .c (.slc 0 0 (List.length l) l_t), .c (.slc 1 0 (List.length p) p_t)], ([.nin 1 l none, .inp 1 p] : Heap cod)⟩ (Sym.Ends Try.prog Try.f9 2 (.c (.int .i64 (F.picE cx cy s w h l p))) []) := by
  have h7 : ∀ (r i : Nat), i + r = l.length → F.polsE l = F.polsE (l.drop i) → ∀ R : Int, R = (if F.polsE l = 0 then F.ptsE p else F.polsE l) → Sym.Runs Try.prog b0 (cutAt Try.f9 7) (st_sck_7 cx cy s w h l l_t p p_t (i : Int)) (Sym.Ends Try.prog Try.f9 2 (.c (.int .i64 R)) []) := by
    intro r
    induction r with
    | zero =>
      intro i hi hP R hR
      rw [List.drop_eq_nil_of_le (by omega), F.polsE] at hP
      rw [if_pos hP] at hR
      refine Runs.go (cfg := C_rep) L_rep_ok mixed cuts_sck 400 hb (sck_t7 cx cy s w h l l_t p p_t (i : Int)) ?_
      have := sck_l20 cx cy s w h l l_t p p_t b0 hb h1 R p.length 0 (by omega) hR
      simp only [T.wp, T.wp_cond, Aft, Int.ofNat_eq_natCast, decide_eq_true_eq]
      exact ite_no (by omega) this
    | succ r ih =>
      intro i hi hP R hR
      have hil : i < l.length := by omega
      have nx := ih (i + 1) (by omega)
      rw [dropc l [] i hil, F.polsE] at hP
      refine Runs.go (cfg := C_rep) L_rep_ok mixed cuts_sck 400 hb (sck_t7 cx cy s w h l l_t p p_t (i : Int)) ?_
      simp only [T.wp, T.wp_cond, Aft, Int.ofNat_eq_natCast, decide_eq_true_eq]
      refine ite_yes (by omega) ?_
      generalize eq : l.getD i [] = q at *
      refine Runs.open 0 i rfl hil rfl ?_
      have hst : st_sck_r8b cx cy s w h l l_t p p_t (i : Int) i (l.getD i []) = st_sck_r8b cx cy s w h l l_t p p_t (i : Int) i q := by rw [eq]
      refine Runs.weaken (st' := st_sck_r8b cx cy s w h l l_t p p_t (i : Int) i q) (fun a w hR => by rw [← hst]; exact hR) ?_
      refine Runs.go (cfg := C_rep) L_rep_ok mixed cuts_sck_r8b 400 hb (sck_tr8b cx cy s w h l l_t p p_t (i : Int) i q) ?_
      simp only [T.wp, T.wp_cond, Aft, Int.ofNat_eq_natCast, decide_eq_true_eq, and_true, true_and, Nat.zero_add, Int.toNat_natCast]
      refine ⟨⟨by omega, by omega⟩, hil, ?_⟩
      unfold F.polE at hP
      by_cases c16 : 16 < q.length
      · rw [if_pos c16, if_neg (by decide)] at hP
        rw [hP, if_neg (by decide)] at hR
        subst hR
        exact ite_yes (by omega) rfl
      · rw [if_neg c16] at hP
        refine ite_no (by omega) ?_
        refine sck_l12 cx cy s w h l l_t p p_t b0 hb R i (by omega) q (by omega) (fun hz => ?_) (fun hz => ?_) q.length 0 (by omega) rfl
        · rw [if_pos hz] at hP
          have := nx hP R hR
          rw [Int.natCast_succ] at this
          exact this
        · rw [if_neg hz] at hP
          rw [hP, if_neg hz] at hR
          exact hR
  refine Runs.go (cfg := C_rep) L_rep_ok mixed cuts_sck 400 hb (sck_t0 cx cy s w h l l_t p p_t) ?_
  unfold F.picE
  simp only [T.wp, T.wp_cond, Aft, Int.ofNat_eq_natCast, decide_eq_true_eq, and_true, Bool.not_eq_true', decide_eq_false_iff_not]
  by_cases c : F.vE cx cy s w h = 0
  · rw [if_pos c]
    exact ite_no (fun h => h c) (ite_no (by omega) (ite_no (by omega) (h7 l.length 0 (by omega) rfl _ rfl)))
  · rw [if_neg c]
    exact ite_yes c rfl



noncomputable def s_sck : Summ cod := fun args H => match args, H with
  | [.agg [.int .i64 cx, .int .i64 cy, .int .i64 s, .int .i64 w, .int .i64 h], .c (.slc 0 l_i l_n l_t), .c (.slc 1 p_i p_n p_t)], [o0, o1] => (match o0.asNin 1 with | some l => (match o1.asInp 1 with | some p => .need ((l_i = 0 ∧ l_n = List.length l) ∧ (p_i = 0 ∧ p_n = List.length p) ∧ (l.length ≤ 12) ∧ (p.length ≤ 32)) (.ret (.c (.int .i64 (F.picE cx cy s w h l p)), [])) | none => .fail) | none => .fail)
  | _, _ => .fail


theorem sck_sound : Sound Try.prog cod 9 s_sck := sound_runs (cfg := C_rep) L_rep_ok mixed Try.func9 rfl rfl _ fun args H r news hg b0 hb => by
  unfold s_sck at hg
  split at hg
  · skip
    split at hg
    · rename_i l hx0
      cases asNin_spec hx0
      split at hg
      · rename_i p hx1
        cases asInp_spec hx1
        simp only [T.gives, T.wp, Prod.mk.injEq] at hg
        obtain ⟨⟨⟨rfl, rfl⟩, ⟨rfl, rfl⟩, q2, q3⟩, rfl, rfl⟩ := hg
        exact sck_run _ _ _ _ _ _ _ _ _ b0 hb (by assumption) (by assumption)
      · exact hg.elim
    · exact hg.elim
  · exact hg.elim

noncomputable def L_sck : Sums cod := (9, .p s_sck) :: L_rep
noncomputable def C_sck : Cfg cod := mkC L_sck

theorem L_sck_ok : Snd Try.prog cod L_sck := .cons sck_sound L_rep_ok



def cuts_pby : Cuts := [(2, [7, 4, 19, 1, 20, 21], 4), (8, [7, 4, 31, 32, 33], 4), (100009, [7, 4, 31, 32, 33], 5), (11, [7, 12, 4, 31, 32, 33, 38, 39], 5), (100014, [7, 12, 4, 31, 32, 33, 38, 39, 15, 14], 7), (100023, [7, 4, 31, 32, 33], 5)]
def cuts_pby_r9 : Cuts := [(2, [7, 4, 19, 1, 20, 21], 4), (8, [7, 4, 31, 32, 33], 4), (11, [7, 12, 4, 31, 32, 33, 38, 39], 5), (100014, [7, 12, 4, 31, 32, 33, 38, 39, 15, 14], 7), (100023, [7, 4, 31, 32, 33], 5)]
def cuts_pby_r9b : Cuts := [(2, [7, 4, 19, 1, 20, 21], 4), (8, [7, 4, 31, 32, 33], 4), (11, [7, 12, 4, 31, 32, 33, 38, 39], 5), (100014, [7, 12, 4, 31, 32, 33, 38, 39, 15, 14], 7), (100023, [7, 4, 31, 32, 33], 5)]
def cuts_pby_r14 : Cuts := [(2, [7, 4, 19, 1, 20, 21], 4), (8, [7, 4, 31, 32, 33], 4), (100009, [7, 4, 31, 32, 33], 5), (11, [7, 12, 4, 31, 32, 33, 38, 39], 5), (100023, [7, 4, 31, 32, 33], 5)]
def cuts_pby_r23 : Cuts := [(2, [7, 4, 19, 1, 20, 21], 4), (8, [7, 4, 31, 32, 33], 4), (100009, [7, 4, 31, 32, 33], 5), (11, [7, 12, 4, 31, 32, 33, 38, 39], 5), (100014, [7, 12, 4, 31, 32, 33, 38, 39, 15, 14], 7)]

theorem pby_t0 (cx cy s w h : Int) (l : List (List (Int × Int))) (l_t : Bool) (p : List (Int × Int)) (p_t : Bool) (x y : Int) : symF C_sck cuts_pby Try.f8.results.toList 2 400 [.code (codeOf Try.f8)] ⟨argsS Try.f8 [.agg [.int .i64 cx, .int .i64 cy, .int .i64 s, .int .i64 w, .int .i64 h], .c (.slc 0 0 (List.length l) l_t), .c (.slc 1 0 (List.length p) p_t), .agg [.int .i64 x, .int .i64 y]], ([.nin 1 l none, .inp 1 p] : Heap cod)⟩ =
.ret (.cut (cutAt Try.f8 2) ⟨tmG 65 [(1, .c (.slc 0 0 (List.length l) l_t)), (2, .c (.ptr 2 0 0)), (2, .c (.ptr 3 0 0)), (11, .c (.slc 1 0 (List.length p) p_t)), (0, .c (.int .i64 (Int.ofNat (List.length p)))), (0, .c (.int .i64 0))], [.nin 1 (l) none, .inp 1 p, .blk [.int .i64 cx, .int .i64 cy, .int .i64 s, .int .i64 w, .int .i64 h] 25, .blk [.int .i64 x, .int .i64 y] 37]⟩) := by kernel_rfl


noncomputable def st_pby_2 (cx cy s w h : Int) (l : List (List (Int × Int))) (l_t : Bool) (p : List (Int × Int)) (p_t : Bool) (x y : Int) (k : Int) : St cod := ⟨tmG 65 [(1, .c (.slc 0 0 (List.length l) l_t)), (2, .c (.ptr 2 0 0)), (2, .c (.ptr 3 0 0)), (11, .c (.slc 1 0 (List.length p) p_t)), (0, .c (.int .i64 (Int.ofNat (List.length p)))), (0, .c (.int .i64 k))], [.nin 1 (l) none, .inp 1 p, .blk [.int .i64 cx, .int .i64 cy, .int .i64 s, .int .i64 w, .int .i64 h] 25, .blk [.int .i64 x, .int .i64 y] 37]⟩


theorem pby_t2 (cx cy s w h : Int) (l : List (List (Int × Int))) (l_t : Bool) (p : List (Int × Int)) (p_t : Bool) (x y : Int) (k : Int) : symF C_sck cuts_pby Try.f8.results.toList 2 400 (cutAt Try.f8 2) (st_pby_2 cx cy s w h l l_t p p_t x y k) =
 cond (decide (k < Int.ofNat (List.length p))) (
 .need (((0 : Int) ≤ k ∧ k < Int.ofNat (List.length p))) (
 .need (0 + Int.toNat k < List.length p) (
 .need ((F.vok cx cy s w h = true ∧ F.pt (List.getD p (0 + Int.toNat k) (cod 1).d).1 (List.getD p (0 + Int.toNat k) (cod 1).d).2 = 0)) (
 cond (decide (F.scX cx (List.getD p (0 + Int.toNat k) (cod 1).d).1 s w = x) &&   decide (F.scX cy (List.getD p (0 + Int.toNat k) (cod 1).d).2 s h = y)) (
  .ret (.fin (.c (.int .u8 111)) [])) (
  .need (i64ok (k + 1)) (
  .ret (.cut (cutAt Try.f8 2) ⟨tmG 65 [(1, .c (.slc 0 0 (List.length l) l_t)), (2, .c (.ptr 2 0 0)), (2, .c (.ptr 3 0 0)), (11, .c (.slc 1 0 (List.length p) p_t)), (0, .c (.int .i64 (Int.ofNat (List.length p)))), (0, .c (.int .i64 (k + 1)))], [.nin 1 (l) none, .inp 1 p, .blk [.int .i64 cx, .int .i64 cy, .int .i64 s, .int .i64 w, .int .i64 h] 25, .blk [.int .i64 x, .int .i64 y] 37]⟩))))))) (
 .ret (.cut (cutAt Try.f8 8) ⟨tmG 53 [(4, .c (.ptr 2 0 0)), (2, .c (.ptr 3 0 0)), (23, .c (.slc 0 0 (List.length l) l_t)), (0, .c (.int .i64 (Int.ofNat (List.length l)))), (0, .c (.int .i64 0))], [.nin 1 (l) none, .inp 1 p, .blk [.int .i64 cx, .int .i64 cy, .int .i64 s, .int .i64 w, .int .i64 h] 25, .blk [.int .i64 x, .int .i64 y] 37]⟩)) := by kernel_rfl


noncomputable def st_pby_8 (cx cy s w h : Int) (l : List (List (Int × Int))) (l_t : Bool) (p : List (Int × Int)) (p_t : Bool) (x y : Int) (i : Int) : St cod := ⟨tmG 53 [(4, .c (.ptr 2 0 0)), (2, .c (.ptr 3 0 0)), (23, .c (.slc 0 0 (List.length l) l_t)), (0, .c (.int .i64 (Int.ofNat (List.length l)))), (0, .c (.int .i64 i))], [.nin 1 (l) none, .inp 1 p, .blk [.int .i64 cx, .int .i64 cy, .int .i64 s, .int .i64 w, .int .i64 h] 25, .blk [.int .i64 x, .int .i64 y] 37]⟩


theorem pby_t8 (cx cy s w h : Int) (l : List (List (Int × Int))) (l_t : Bool) (p : List (Int × Int)) (p_t : Bool) (x y : Int) (i : Int) : symF C_sck cuts_pby Try.f8.results.toList 2 400 (cutAt Try.f8 8) (st_pby_8 cx cy s w h l l_t p p_t x y i) =
 cond (decide (i < Int.ofNat (List.length l))) (
 .ret (.cut (regAt Try.f8 9) ⟨tmG 53 [(4, .c (.ptr 2 0 0)), (2, .c (.ptr 3 0 0)), (23, .c (.slc 0 0 (List.length l) l_t)), (0, .c (.int .i64 (Int.ofNat (List.length l)))), (0, .c (.int .i64 i))], [.nin 1 (l) none, .inp 1 p, .blk [.int .i64 cx, .int .i64 cy, .int .i64 s, .int .i64 w, .int .i64 h] 25, .blk [.int .i64 x, .int .i64 y] 37]⟩)) (
 .ret (.fin (.c (.int .u8 32)) [])) := by kernel_rfl


noncomputable def st_pby_r9 (cx cy s w h : Int) (l : List (List (Int × Int))) (l_t : Bool) (p : List (Int × Int)) (p_t : Bool) (x y : Int) (i : Int) : St cod := ⟨tmG 53 [(4, .c (.ptr 2 0 0)), (2, .c (.ptr 3 0 0)), (23, .c (.slc 0 0 (List.length l) l_t)), (0, .c (.int .i64 (Int.ofNat (List.length l)))), (0, .c (.int .i64 i))], [.nin 1 (l) none, .inp 1 p, .blk [.int .i64 cx, .int .i64 cy, .int .i64 s, .int .i64 w, .int .i64 h] 25, .blk [.int .i64 x, .int .i64 y] 37]⟩


noncomputable def st_pby_r9b (cx cy s w h : Int) (l : List (List (Int × Int))) (l_t : Bool) (p : List (Int × Int)) (p_t : Bool) (x y : Int) (i : Int) (j : Nat) (q : List (Int × Int)) : St cod := ⟨tmG 53 [(4, .c (.ptr 2 0 0)), (2, .c (.ptr 3 0 0)), (23, .c (.slc 0 0 (List.length l) l_t)), (0, .c (.int .i64 (Int.ofNat (List.length l)))), (0, .c (.int .i64 i))], ([.nin 1 l (some (j, .slc 4 0 (List.length q) false)), .inp 1 p, .blk [.int .i64 cx, .int .i64 cy, .int .i64 s, .int .i64 w, .int .i64 h] 25, .blk [.int .i64 x, .int .i64 y] 37, .inp 1 q] : Heap cod)⟩


theorem pby_tr9b (cx cy s w h : Int) (l : List (List (Int × Int))) (l_t : Bool) (p : List (Int × Int)) (p_t : Bool) (x y : Int) (i : Int) (j : Nat) (q : List (Int × Int)) : symF C_sck cuts_pby_r9b Try.f8.results.toList 2 400 (regAt Try.f8 9) (st_pby_r9b cx cy s w h l l_t p p_t x y i j q) =
.need (((0 : Int) ≤ i ∧ i < Int.ofNat (List.length l))) (
.need ((0 + Int.toNat i = j ∧ j < List.length l)) (
.ret (.cut (cutAt Try.f8 11) ⟨tmG 47 [(4, .c (.ptr 2 0 0)), (2, .c (.ptr 3 0 0)), (4, .c (.slc 4 0 (List.length q) false)), (18, .c (.slc 0 0 (List.length l) l_t)), (0, .c (.int .i64 (Int.ofNat (List.length l)))), (0, .c (.int .i64 i)), (4, .c (.int .i64 (Int.ofNat (List.length q)))), (0, .c (.int .i64 0))], [.nin 1 (l) (some ((j), .slc 4 0 (List.length q) false)), .inp 1 p, .blk [.int .i64 cx, .int .i64 cy, .int .i64 s, .int .i64 w, .int .i64 h] 25, .blk [.int .i64 x, .int .i64 y] 37, .inp 1 q]⟩))) := by kernel_rfl


noncomputable def st_pby_11 (cx cy s w h : Int) (l : List (List (Int × Int))) (l_t : Bool) (p : List (Int × Int)) (p_t : Bool) (x y : Int) (i : Int) (j : Nat) (q : List (Int × Int)) (k : Int) : St cod := ⟨tmG 47 [(4, .c (.ptr 2 0 0)), (2, .c (.ptr 3 0 0)), (4, .c (.slc 4 0 (List.length q) false)), (18, .c (.slc 0 0 (List.length l) l_t)), (0, .c (.int .i64 (Int.ofNat (List.length l)))), (0, .c (.int .i64 i)), (4, .c (.int .i64 (Int.ofNat (List.length q)))), (0, .c (.int .i64 k))], [.nin 1 (l) (some ((j), .slc 4 0 (List.length q) false)), .inp 1 p, .blk [.int .i64 cx, .int .i64 cy, .int .i64 s, .int .i64 w, .int .i64 h] 25, .blk [.int .i64 x, .int .i64 y] 37, .inp 1 q]⟩


theorem pby_t11 (cx cy s w h : Int) (l : List (List (Int × Int))) (l_t : Bool) (p : List (Int × Int)) (p_t : Bool) (x y : Int) (i : Int) (j : Nat) (q : List (Int × Int)) (k : Int) : symF C_sck cuts_pby Try.f8.results.toList 2 400 (cutAt Try.f8 11) (st_pby_11 cx cy s w h l l_t p p_t x y i j q k) =
 cond (decide (k < Int.ofNat (List.length q))) (
 .need (((0 : Int) ≤ k ∧ k < Int.ofNat (List.length q))) (
 .need (0 + Int.toNat k < List.length q) (
 .need ((F.vok cx cy s w h = true ∧ F.pt (List.getD q (0 + Int.toNat k) (cod 1).d).1 (List.getD q (0 + Int.toNat k) (cod 1).d).2 = 0)) (
 .need (i64ok (k + 1)) (
 .need (Int.ofNat (List.length q) ≠ 0) (
 .need (((0 : Int) ≤ Int.tmod (k + 1) (Int.ofNat (List.length q)) ∧ Int.tmod (k + 1) (Int.ofNat (List.length q)) < Int.ofNat (List.length q))) (
 .need (0 + Int.toNat (Int.tmod (k + 1) (Int.ofNat (List.length q))) < List.length q) (
 .need ((F.vok cx cy s w h = true ∧ F.pt (List.getD q (0 + Int.toNat (Int.tmod (k + 1) (Int.ofNat (List.length q)))) (cod 1).d).1     (List.getD q (0 + Int.toNat (Int.tmod (k + 1) (Int.ofNat (List.length q)))) (cod 1).d).2 =   0)) (
 .ret (.cut (regAt Try.f8 14) ⟨tmG 47 [(4, .c (.ptr 2 0 0)), (2, .c (.ptr 3 0 0)), (4, .c (.slc 4 0 (List.length q) false)), (1, .c (.ptr 5 0 0)), (0, .c (.ptr 6 0 0)), (15, .c (.slc 0 0 (List.length l) l_t)), (0, .c (.int .i64 (Int.ofNat (List.length l)))), (0, .c (.int .i64 i)), (4, .c (.int .i64 (Int.ofNat (List.length q)))), (0, .c (.int .i64 k))], [.nin 1 (l) (some ((j), .slc 4 0 (List.length q) false)), .inp 1 p, .blk [.int .i64 cx, .int .i64 cy, .int .i64 s, .int .i64 w, .int .i64 h] 25, .blk [.int .i64 x, .int .i64 y] 37, .inp 1 q, .blk [.int .i64 (F.scX cx (List.getD q (0 + Int.toNat k) (cod 1).d).1 s w), .int .i64 (F.scX cy (List.getD q (0 + Int.toNat k) (cod 1).d).2 s h)] 37, .blk [.int .i64 (F.scX cx (List.getD q (0 + Int.toNat (Int.tmod (k + 1) (Int.ofNat (List.length q)))) (cod 1).d).1 s w), .int .i64 (F.scX cy (List.getD q (0 + Int.toNat (Int.tmod (k + 1) (Int.ofNat (List.length q)))) (cod 1).d).2 s h)] 37]⟩)))))))))) (
 .ret (.cut (regAt Try.f8 23) ⟨tmG 53 [(4, .c (.ptr 2 0 0)), (2, .c (.ptr 3 0 0)), (23, .c (.slc 0 0 (List.length l) l_t)), (0, .c (.int .i64 (Int.ofNat (List.length l)))), (0, .c (.int .i64 i))], [.nin 1 (l) (some ((j), .slc 4 0 (List.length q) false)), .inp 1 p, .blk [.int .i64 cx, .int .i64 cy, .int .i64 s, .int .i64 w, .int .i64 h] 25, .blk [.int .i64 x, .int .i64 y] 37, .inp 1 q]⟩)) := by kernel_rfl


noncomputable def st_pby_r14 (cx cy s w h : Int) (l : List (List (Int × Int))) (l_t : Bool) (p : List (Int × Int)) (p_t : Bool) (x y : Int) (i : Int) (j : Nat) (q : List (Int × Int)) (k a1 a2 b1 b2 : Int) : St cod := ⟨tmG 47 [(4, .c (.ptr 2 0 0)), (2, .c (.ptr 3 0 0)), (4, .c (.slc 4 0 (List.length q) false)), (1, .c (.ptr 5 0 0)), (0, .c (.ptr 6 0 0)), (15, .c (.slc 0 0 (List.length l) l_t)), (0, .c (.int .i64 (Int.ofNat (List.length l)))), (0, .c (.int .i64 i)), (4, .c (.int .i64 (Int.ofNat (List.length q)))), (0, .c (.int .i64 k))], ([.nin 1 l (some (j, .slc 4 0 (List.length q) false)), .inp 1 p, .blk [.int .i64 cx, .int .i64 cy, .int .i64 s, .int .i64 w, .int .i64 h] 25, .blk [.int .i64 x, .int .i64 y] 37, .inp 1 q, .blk [.int .i64 a1, .int .i64 a2] 37, .blk [.int .i64 b1, .int .i64 b2] 37] : Heap cod)⟩


theorem pby_tr14 (cx cy s w h : Int) (l : List (List (Int × Int))) (l_t : Bool) (p : List (Int × Int)) (p_t : Bool) (x y : Int) (i : Int) (j : Nat) (q : List (Int × Int)) (k a1 a2 b1 b2 : Int) : symF C_sck cuts_pby_r14 Try.f8.results.toList 2 400 (regAt Try.f8 14) (st_pby_r14 cx cy s w h l l_t p p_t x y i j q k a1 a2 b1 b2) =
.need (((0 : Int) ≤ 0 ∧ (0 : Int) < Int.ofNat 4)) (
.need (i64ok (0 + 1)) (
.need (((0 : Int) ≤ 0 + 1 ∧ (0 + 1 : Int) < Int.ofNat 4)) (
 cond (!F.inb a1 (-2000) 2000) (
 .need (i64ok (0 + 1 + 1)) (
 .need (((0 : Int) ≤ 0 + 1 + 1 ∧ (0 + 1 + 1 : Int) < Int.ofNat 4)) (
 .need (i64ok (0 + 1 + 1 + 1)) (
 .need (((0 : Int) ≤ 0 + 1 + 1 + 1 ∧ (0 + 1 + 1 + 1 : Int) < Int.ofNat 4)) (
 .need (i64ok (0 + 1 + 1 + 1 + 1)) (
 .need (i64ok (k + 1)) (
 .ret (.cut (cutAt Try.f8 11) ⟨tmG 47 [(4, .c (.ptr 2 0 0)), (2, .c (.ptr 3 0 0)), (4, .c (.slc 4 0 (List.length q) false)), (18, .c (.slc 0 0 (List.length l) l_t)), (0, .c (.int .i64 (Int.ofNat (List.length l)))), (0, .c (.int .i64 i)), (4, .c (.int .i64 (Int.ofNat (List.length q)))), (0, .c (.int .i64 (k + 1)))], [.nin 1 (l) (some ((j), .slc 4 0 (List.length q) false)), .inp 1 p, .blk [.int .i64 cx, .int .i64 cy, .int .i64 s, .int .i64 w, .int .i64 h] 25, .blk [.int .i64 x, .int .i64 y] 37, .inp 1 q]⟩)))))))) (
 .need (i64ok (0 + 1 + 1)) (
 .need (((0 : Int) ≤ 0 + 1 + 1 ∧ (0 + 1 + 1 : Int) < Int.ofNat 4)) (
 cond (!F.inb a2 (-2000) 2000) (
  .need (i64ok (0 + 1 + 1 + 1)) (
  .need (((0 : Int) ≤ 0 + 1 + 1 + 1 ∧ (0 + 1 + 1 + 1 : Int) < Int.ofNat 4)) (
  .need (i64ok (0 + 1 + 1 + 1 + 1)) (
  .need (i64ok (k + 1)) (
  .ret (.cut (cutAt Try.f8 11) ⟨tmG 47 [(4, .c (.ptr 2 0 0)), (2, .c (.ptr 3 0 0)), (4, .c (.slc 4 0 (List.length q) false)), (18, .c (.slc 0 0 (List.length l) l_t)), (0, .c (.int .i64 (Int.ofNat (List.length l)))), (0, .c (.int .i64 i)), (4, .c (.int .i64 (Int.ofNat (List.length q)))), (0, .c (.int .i64 (k + 1)))], [.nin 1 (l) (some ((j), .slc 4 0 (List.length q) false)), .inp 1 p, .blk [.int .i64 cx, .int .i64 cy, .int .i64 s, .int .i64 w, .int .i64 h] 25, .blk [.int .i64 x, .int .i64 y] 37, .inp 1 q]⟩)))))) (
  .need (i64ok (0 + 1 + 1 + 1)) (
  .need (((0 : Int) ≤ 0 + 1 + 1 + 1 ∧ (0 + 1 + 1 + 1 : Int) < Int.ofNat 4)) (
  cond (!F.inb b1 (-2000) 2000) (
   .need (i64ok (0 + 1 + 1 + 1 + 1)) (
   .need (i64ok (k + 1)) (
   .ret (.cut (cutAt Try.f8 11) ⟨tmG 47 [(4, .c (.ptr 2 0 0)), (2, .c (.ptr 3 0 0)), (4, .c (.slc 4 0 (List.length q) false)), (18, .c (.slc 0 0 (List.length l) l_t)), (0, .c (.int .i64 (Int.ofNat (List.length l)))), (0, .c (.int .i64 i)), (4, .c (.int .i64 (Int.ofNat (List.length q)))), (0, .c (.int .i64 (k + 1)))], [.nin 1 (l) (some ((j), .slc 4 0 (List.length q) false)), .inp 1 p, .blk [.int .i64 cx, .int .i64 cy, .int .i64 s, .int .i64 w, .int .i64 h] 25, .blk [.int .i64 x, .int .i64 y] 37, .inp 1 q]⟩)))) (
   .need (i64ok (0 + 1 + 1 + 1 + 1)) (
   cond (!!F.inb b2 (-2000) 2000) (
    .need ((((-2000 : Int) ≤ a1 ∧ a1 ≤ 2000) ∧ (((-2000 : Int) ≤ a2 ∧ a2 ≤ 2000) ∧ (((-2000 : Int) ≤ b1 ∧ b1 ≤ 2000) ∧ (((-2000 : Int) ≤ b2 ∧ b2 ≤ 2000) ∧ (((-1000000 : Int) ≤ x ∧ x ≤ 1000000) ∧ ((-1000000 : Int) ≤ y ∧ y ≤ 1000000))))))) (
    cond (F.on a1 a2 b1 b2 x y) (
     .ret (.fin (.c (.int .u8 46)) [])) (
     .need (i64ok (k + 1)) (
     .ret (.cut (cutAt Try.f8 11) ⟨tmG 47 [(4, .c (.ptr 2 0 0)), (2, .c (.ptr 3 0 0)), (4, .c (.slc 4 0 (List.length q) false)), (18, .c (.slc 0 0 (List.length l) l_t)), (0, .c (.int .i64 (Int.ofNat (List.length l)))), (0, .c (.int .i64 i)), (4, .c (.int .i64 (Int.ofNat (List.length q)))), (0, .c (.int .i64 (k + 1)))], [.nin 1 (l) (some ((j), .slc 4 0 (List.length q) false)), .inp 1 p, .blk [.int .i64 cx, .int .i64 cy, .int .i64 s, .int .i64 w, .int .i64 h] 25, .blk [.int .i64 x, .int .i64 y] 37, .inp 1 q]⟩))))) (
    .need (i64ok (k + 1)) (
    .ret (.cut (cutAt Try.f8 11) ⟨tmG 47 [(4, .c (.ptr 2 0 0)), (2, .c (.ptr 3 0 0)), (4, .c (.slc 4 0 (List.length q) false)), (18, .c (.slc 0 0 (List.length l) l_t)), (0, .c (.int .i64 (Int.ofNat (List.length l)))), (0, .c (.int .i64 i)), (4, .c (.int .i64 (Int.ofNat (List.length q)))), (0, .c (.int .i64 (k + 1)))], [.nin 1 (l) (some ((j), .slc 4 0 (List.length q) false)), .inp 1 p, .blk [.int .i64 cx, .int .i64 cy, .int .i64 s, .int .i64 w, .int .i64 h] 25, .blk [.int .i64 x, .int .i64 y] 37, .inp 1 q]⟩)))))))))))))) := by kernel_rfl


noncomputable def st_pby_r23 (cx cy s w h : Int) (l : List (List (Int × Int))) (l_t : Bool) (p : List (Int × Int)) (p_t : Bool) (x y : Int) (i : Int) : St cod := ⟨tmG 53 [(4, .c (.ptr 2 0 0)), (2, .c (.ptr 3 0 0)), (23, .c (.slc 0 0 (List.length l) l_t)), (0, .c (.int .i64 (Int.ofNat (List.length l)))), (0, .c (.int .i64 i))], [.nin 1 (l) none, .inp 1 p, .blk [.int .i64 cx, .int .i64 cy, .int .i64 s, .int .i64 w, .int .i64 h] 25, .blk [.int .i64 x, .int .i64 y] 37]⟩


theorem pby_tr23 (cx cy s w h : Int) (l : List (List (Int × Int))) (l_t : Bool) (p : List (Int × Int)) (p_t : Bool) (x y : Int) (i : Int) : symF C_sck cuts_pby_r23 Try.f8.results.toList 2 400 (regAt Try.f8 23) (st_pby_r23 cx cy s w h l l_t p p_t x y i) =
.need (i64ok (i + 1)) (
.ret (.cut (cutAt Try.f8 8) ⟨tmG 53 [(4, .c (.ptr 2 0 0)), (2, .c (.ptr 3 0 0)), (23, .c (.slc 0 0 (List.length l) l_t)), (0, .c (.int .i64 (Int.ofNat (List.length l)))), (0, .c (.int .i64 (i + 1)))], [.nin 1 (l) none, .inp 1 p, .blk [.int .i64 cx, .int .i64 cy, .int .i64 s, .int .i64 w, .int .i64 h] 25, .blk [.int .i64 x, .int .i64 y] 37]⟩)) := by kernel_rfl



theorem ptsE_all : ∀ p : List (Int × Int), F.ptsE p = 0 → ∀ i, i < p.length → F.pt (p.getD i (0, 0)).1 (p.getD i (0, 0)).2 = 0
  | [], _, i, h => by simp at h
  | q :: t, h, i, hi => by
    unfold F.ptsE at h
    by_cases c : F.pt q.1 q.2 = 0
    · rw [if_pos c] at h
      cases i with
      | zero => exact c
      | succ i => exact ptsE_all t h i (by simpa using hi)
    · rw [if_neg c] at h
      exact absurd h c
theorem polsE_all : ∀ l : List (List (Int × Int)), F.polsE l = 0 → ∀ m, m < l.length → (l.getD m []).length ≤ 16 ∧ F.ptsE (l.getD m []) = 0
  | [], _, m, h => by simp at h
  | q :: t, h, m, hm => by
    unfold F.polsE at h
    by_cases c : F.polE q = 0
    · rw [if_pos c] at h
      cases m with
      | zero =>
        unfold F.polE at c
        by_cases c16 : 16 < q.length
        · rw [if_pos c16] at c
          cases c
        · rw [if_neg c16] at c
          exact ⟨by show q.length ≤ 16; omega, c⟩
      | succ m => exact polsE_all t h m (by simpa using hm)
    · rw [if_neg c] at h
      exact absurd h c
theorem far_inb (x y : Int) : F.far x y = !(F.inb x (-2000) 2000 && F.inb y (-2000) 2000) := by
  unfold F.far F.inb
  by_cases h1 : x < -2000 <;> by_cases h2 : 2000 < x <;> by_cases h3 : y < -2000 <;> by_cases h4 : 2000 < y <;> simp [h1, h2, h3, h4] <;> omega
theorem inb_bd {x a b : Int} (h : F.inb x a b = true) : a ≤ x ∧ x ≤ b := by
  unfold F.inb at h
  simpa using h
theorem tmod_next (k n : Nat) (hk : k < n) : Int.tmod ((k : Int) + 1) (n : Int) = (((k + 1) % n : Nat) : Int) := by
  rw [Int.tmod_eq_emod_of_nonneg (by omega)]
  rfl
theorem pby_l14 (cx cy s w h : Int) (l : List (List (Int × Int))) (l_t : Bool) (p : List (Int × Int)) (p_t : Bool) (x y : Int) (b0 : Base) (hb : b0.n = 2) (hxy : (-1000000 ≤ x ∧ x ≤ 1000000) ∧ (-1000000 ≤ y ∧ y ≤ 1000000)) (R : Int) (i : Int) (j : Nat) (q : List (Int × Int)) (k : Int) (hk : 0 ≤ k ∧ k ≤ 100) (a1 a2 b1 b2 : Int)
    (hon : (!F.far a1 a2 && (!F.far b1 b2 && F.on a1 a2 b1 b2 x y)) = true → R = 46)
    (nx : (!F.far a1 a2 && (!F.far b1 b2 && F.on a1 a2 b1 b2 x y)) = false → Sym.Runs Try.prog b0 (cutAt Try.f8 11) (st_pby_11 cx cy s w h l l_t p p_t x y i j q (k + 1)) (Sym.Ends Try.prog Try.f8 2 (.c (.int .u8 R)) [])) :
    Sym.Runs Try.prog b0 (regAt Try.f8 14) (st_pby_r14 cx cy s w h l l_t p p_t x y i j q k a1 a2 b1 b2) (Sym.Ends Try.prog Try.f8 2 (.c (.int .u8 R)) []) := by
  rw [far_inb, far_inb] at hon nx
  refine Runs.go (cfg := C_sck) L_sck_ok mixed cuts_pby_r14 400 hb (pby_tr14 cx cy s w h l l_t p p_t x y i j q k a1 a2 b1 b2) ?_
  have hk64 : Sym.i64ok (k + 1) := by unfold Sym.i64ok; omega
  by_cases hall : F.inb a1 (-2000) 2000 = true ∧ F.inb a2 (-2000) 2000 = true ∧ F.inb b1 (-2000) 2000 = true ∧ F.inb b2 (-2000) 2000 = true
  · obtain ⟨g1, g2, g3, g4⟩ := hall
    have r1 := inb_bd g1
    have r2 := inb_bd g2
    have r3 := inb_bd g3
    have r4 := inb_bd g4
    simp only [T.wp, T.wp_cond, Aft, Int.ofNat_eq_natCast, and_true, g1, g2, g3, g4, Bool.not_true, Bool.not_false, Bool.true_and, Bool.and_self, Bool.false_eq_true, if_true, if_false] at hon nx ⊢
    cases go : F.on a1 a2 b1 b2 x y with
    | true =>
      have hR := hon go
      subst hR
      simp only [if_true]
      repeat' (first | (with_reducible refine And.intro ?_ ?_) | omega | (unfold Sym.i64ok; omega) | trivial)
    | false =>
      have nx' := nx go
      simp only [Bool.false_eq_true, if_false]
      repeat' (first | exact nx' | (with_reducible refine And.intro ?_ ?_) | omega | (unfold Sym.i64ok; omega) | trivial)
  · have hz : (!!(F.inb a1 (-2000) 2000 && F.inb a2 (-2000) 2000) && (!!(F.inb b1 (-2000) 2000 && F.inb b2 (-2000) 2000) && F.on a1 a2 b1 b2 x y)) = false := by
      revert hall
      cases F.inb a1 (-2000) 2000 <;> cases F.inb a2 (-2000) 2000 <;> cases F.inb b1 (-2000) 2000 <;> cases F.inb b2 (-2000) 2000 <;> simp
    have nx' := nx hz
    clear nx hon hz
    revert hall
    cases g1 : F.inb a1 (-2000) 2000 <;> cases g2 : F.inb a2 (-2000) 2000 <;> cases g3 : F.inb b1 (-2000) 2000 <;> cases g4 : F.inb b2 (-2000) 2000 <;> intro hall <;>
      simp only [T.wp, T.wp_cond, Aft, Int.ofNat_eq_natCast, and_true, Bool.not_true, Bool.not_false, Bool.false_eq_true, if_true, if_false] <;>
      first
        | exact absurd ⟨rfl, rfl, rfl, rfl⟩ hall
        | (repeat' (first | exact nx' | (with_reducible refine And.intro ?_ ?_) | omega | (unfold Sym.i64ok; omega) | trivial))
theorem pby_l11 (cx cy s w h : Int) (l : List (List (Int × Int))) (l_t : Bool) (p : List (Int × Int)) (p_t : Bool) (x y : Int) (b0 : Base) (hb : b0.n = 2) (hv : F.vok cx cy s w h = true) (hxy : (-1000000 ≤ x ∧ x ≤ 1000000) ∧ (-1000000 ≤ y ∧ y ≤ 1000000)) (R : Int) (i : Nat) (hi : i ≤ 12) (q : List (Int × Int)) (h16 : q.length ≤ 16) (hq : F.ptsE q = 0)
    (nx : F.pbE (cx, cy, s, w, h) q (x, y) = false → Sym.Runs Try.prog b0 (cutAt Try.f8 8) (st_pby_8 cx cy s w h l l_t p p_t x y ((i : Int) + 1)) (Sym.Ends Try.prog Try.f8 2 (.c (.int .u8 R)) [])) (yes : F.pbE (cx, cy, s, w, h) q (x, y) = true → R = 46) :
    ∀ (r k : Nat), k + r = q.length → (∀ m, m < k → F.onE (cx, cy, s, w, h) q m (x, y) = false) → Sym.Runs Try.prog b0 (cutAt Try.f8 11) (st_pby_11 cx cy s w h l l_t p p_t x y (i : Int) i q (k : Int)) (Sym.Ends Try.prog Try.f8 2 (.c (.int .u8 R)) []) := by
  have ed : (cod 1).d = ((0, 0) : Int × Int) := rfl
  have hpt := ptsE_all q hq
  intro r
  induction r with
  | zero =>
    intro k hk ho
    have hz : F.pbE (cx, cy, s, w, h) q (x, y) = false := by
      unfold F.pbE
      rw [List.any_eq_false]
      intro m hm
      rw [ho m (by have := List.mem_range.1 hm; omega)]
      decide
    refine Runs.go (cfg := C_sck) L_sck_ok mixed cuts_pby 400 hb (pby_t11 cx cy s w h l l_t p p_t x y (i : Int) i q (k : Int)) ?_
    simp only [T.wp, T.wp_cond, Aft, Int.ofNat_eq_natCast, decide_eq_true_eq, Nat.zero_add]
    refine ite_no (by omega) (Runs.close 0 rfl ?_)
    refine Runs.weaken (st' := st_pby_r23 cx cy s w h l l_t p p_t x y (i : Int)) (fun a w hR => fit_rel [7, 4, 31, 32, 33] 4 (by omega) hR) ?_
    refine Runs.go (cfg := C_sck) L_sck_ok mixed cuts_pby_r23 400 hb (pby_tr23 cx cy s w h l l_t p p_t x y (i : Int)) ?_
    simp only [T.wp, Aft, Int.ofNat_eq_natCast]
    exact ⟨by unfold i64ok; omega, nx hz⟩
  | succ r ih =>
    intro k hk ho
    have hkq : k < q.length := by omega
    have hnq : (k + 1) % q.length < q.length := Nat.mod_lt _ (by omega)
    have p1 := hpt k hkq
    have p2 := hpt _ hnq
    have e : F.onE (cx, cy, s, w, h) q k (x, y) = (!F.far (F.scX cx (q.getD k (0, 0)).1 s w) (F.scX cy (q.getD k (0, 0)).2 s h) && (!F.far (F.scX cx (q.getD ((k + 1) % q.length) (0, 0)).1 s w) (F.scX cy (q.getD ((k + 1) % q.length) (0, 0)).2 s h) && F.on (F.scX cx (q.getD k (0, 0)).1 s w) (F.scX cy (q.getD k (0, 0)).2 s h) (F.scX cx (q.getD ((k + 1) % q.length) (0, 0)).1 s w) (F.scX cy (q.getD ((k + 1) % q.length) (0, 0)).2 s h) x y)) := rfl
    have h14 := pby_l14 cx cy s w h l l_t p p_t x y b0 hb hxy R (i : Int) i q (k : Int) ⟨by omega, by omega⟩ _ _ _ _ (fun g => yes (by
        unfold F.pbE
        rw [List.any_eq_true]
        exact ⟨k, List.mem_range.2 hkq, e.trans g⟩)) (fun g => by
        have := ih (k + 1) (by omega) (fun m hm => by
          by_cases em : m = k
          · rw [em]; exact e.trans g
          · exact ho m (by omega))
        rw [Int.natCast_succ] at this
        exact this)
    refine Runs.go (cfg := C_sck) L_sck_ok mixed cuts_pby 400 hb (pby_t11 cx cy s w h l l_t p p_t x y (i : Int) i q (k : Int)) ?_
    simp only [T.wp, T.wp_cond, Aft, Int.ofNat_eq_natCast, decide_eq_true_eq, Nat.zero_add, Int.toNat_natCast, ed, tmod_next k q.length hkq]
    exact ite_yes (by omega) ⟨⟨by omega, by omega⟩, hkq, ⟨hv, p1⟩, by unfold i64ok; omega, by omega, ⟨by omega, by omega⟩, hnq, ⟨hv, p2⟩, h14⟩
theorem pby_run (cx cy s w h : Int) (l : List (List (Int × Int))) (l_t : Bool) (p : List (Int × Int)) (p_t : Bool) (x y : Int) (b0 : Base) (hb : b0.n = 2) (h0 : F.vok cx cy s w h = true) (h1 : F.polsE l = 0) (h2 : F.ptsE p = 0) (h3 : l.length ≤ 12) (h4 : p.length ≤ 32) (h5 : (-1000000 ≤ x ∧ x ≤ 1000000) ∧ (-1000000 ≤ y ∧ y ≤ 1000000)) : Sym.Runs Try.prog b0 [.code (codeOf Try.f8)] ⟨argsS Try.f8 [.agg [.int .i64 cx, .int .i64 cy, .int .i64 s, .int .i64 w, .int .i64 h], .c (.slc 0 0 (List.length l) l_t), .c (.slc 1 0 (List.length p) p_t), .agg [.int .i64 x, .int .i64 y]], ([.nin 1 l none, .inp 1 p] : Heap cod)⟩ (Sym.Ends Try.prog Try.f8 2 (.c (.int .u8 (F.pb (cx, cy, s, w, h) l p (x, y)))) []) := by
  have hP := ptsE_all p h2
  have hL := polsE_all l h1
  have ed : (cod 1).d = ((0, 0) : Int × Int) := rfl
  have h8 : ∀ R : Int, R = (if F.pbL (cx, cy, s, w, h) l (x, y) = true then 46 else 32) → ∀ (r i : Nat), i + r = l.length → (∀ m, m < i → F.pbE (cx, cy, s, w, h) (l.getD m []) (x, y) = false) → Sym.Runs Try.prog b0 (cutAt Try.f8 8) (st_pby_8 cx cy s w h l l_t p p_t x y (i : Int)) (Sym.Ends Try.prog Try.f8 2 (.c (.int .u8 R)) []) := by
    intro R hR r
    induction r with
    | zero =>
      intro i hi ho
      have hz : ¬ F.pbL (cx, cy, s, w, h) l (x, y) = true := by
        intro hz
        unfold F.pbL at hz
        rw [F.any_get l []] at hz
        obtain ⟨m, hm, hz⟩ := hz
        rw [ho m (by omega)] at hz
        cases hz
      rw [if_neg hz] at hR
      subst hR
      refine Runs.go (cfg := C_sck) L_sck_ok mixed cuts_pby 400 hb (pby_t8 cx cy s w h l l_t p p_t x y (i : Int)) ?_
      simp only [T.wp, T.wp_cond, Aft, Int.ofNat_eq_natCast, decide_eq_true_eq, and_true]
      exact ite_no (by omega) trivial
    | succ r ih =>
      intro i hi ho
      have hil : i < l.length := by omega
      obtain ⟨q1, q2⟩ := hL i hil
      have hyes : F.pbE (cx, cy, s, w, h) (l.getD i []) (x, y) = true → R = 46 := fun g => by
        rw [if_pos] at hR
        · exact hR
        · unfold F.pbL
          rw [F.any_get l []]
          exact ⟨i, hil, g⟩
      have hno : F.pbE (cx, cy, s, w, h) (l.getD i []) (x, y) = false → Sym.Runs Try.prog b0 (cutAt Try.f8 8) (st_pby_8 cx cy s w h l l_t p p_t x y ((i : Int) + 1)) (Sym.Ends Try.prog Try.f8 2 (.c (.int .u8 R)) []) := fun g => by
        have := ih (i + 1) (by omega) (fun m hm => by
          by_cases em : m = i
          · rw [em]; exact g
          · exact ho m (by omega))
        rw [Int.natCast_succ] at this
        exact this
      refine Runs.go (cfg := C_sck) L_sck_ok mixed cuts_pby 400 hb (pby_t8 cx cy s w h l l_t p p_t x y (i : Int)) ?_
      simp only [T.wp, T.wp_cond, Aft, Int.ofNat_eq_natCast, decide_eq_true_eq, and_true]
      refine ite_yes (by omega) ?_
      refine Runs.open 0 i rfl hil rfl ?_
      refine Runs.weaken (st' := st_pby_r9b cx cy s w h l l_t p p_t x y (i : Int) i (l.getD i [])) (fun a w hR => hR) ?_
      generalize l.getD i [] = q at *
      refine Runs.go (cfg := C_sck) L_sck_ok mixed cuts_pby_r9b 400 hb (pby_tr9b cx cy s w h l l_t p p_t x y (i : Int) i q) ?_
      have h11 := pby_l11 cx cy s w h l l_t p p_t x y b0 hb h0 h5 R i (by omega) q q1 q2 hno hyes q.length 0 (by omega) (fun m hm => by omega)
      simp only [T.wp, Aft, Int.ofNat_eq_natCast, true_and, Nat.zero_add, Int.toNat_natCast]
      exact ⟨⟨by omega, by omega⟩, hil, h11⟩
  have h2 : ∀ (r k : Nat), k + r = p.length → (∀ m, m < k → ¬ F.cel (cx, cy, s, w, h) (p.getD m (0, 0)) = (x, y)) → ∀ R : Int, R = F.pb (cx, cy, s, w, h) l p (x, y) → Sym.Runs Try.prog b0 (cutAt Try.f8 2) (st_pby_2 cx cy s w h l l_t p p_t x y (k : Int)) (Sym.Ends Try.prog Try.f8 2 (.c (.int .u8 R)) []) := by
    intro r
    induction r with
    | zero =>
      intro k hk ho R hR
      have hz : ¬ F.pbP (cx, cy, s, w, h) p (x, y) = true := by
        intro hz
        unfold F.pbP at hz
        rw [F.any_get p (0, 0)] at hz
        obtain ⟨m, hm, hz⟩ := hz
        exact ho m (by omega) (by simpa using hz)
      unfold F.pb at hR
      rw [if_neg hz] at hR
      refine Runs.go (cfg := C_sck) L_sck_ok mixed cuts_pby 400 hb (pby_t2 cx cy s w h l l_t p p_t x y (k : Int)) ?_
      have := h8 R hR l.length 0 (by omega) (fun m hm => by omega)
      simp only [T.wp, T.wp_cond, Aft, Int.ofNat_eq_natCast, decide_eq_true_eq, and_true, Nat.zero_add]
      exact ite_no (by omega) this
    | succ r ih =>
      intro k hk ho R hR
      have hkp : k < p.length := by omega
      have nx := ih (k + 1) (by omega)
      rw [Int.natCast_succ] at nx
      have p1 := hP k hkp
      have ec : F.cel (cx, cy, s, w, h) (p.getD k (0, 0)) = (F.scX cx (p.getD k (0, 0)).1 s w, F.scX cy (p.getD k (0, 0)).2 s h) := rfl
      refine Runs.go (cfg := C_sck) L_sck_ok mixed cuts_pby 400 hb (pby_t2 cx cy s w h l l_t p p_t x y (k : Int)) ?_
      simp only [T.wp, T.wp_cond, Aft, Int.ofNat_eq_natCast, decide_eq_true_eq, and_true, Nat.zero_add, Int.toNat_natCast, ed]
      refine ite_yes (by omega) ⟨⟨by omega, by omega⟩, hkp, ⟨h0, p1⟩, ?_⟩
      by_cases c : F.cel (cx, cy, s, w, h) (p.getD k (0, 0)) = (x, y)
      · have hz : F.pbP (cx, cy, s, w, h) p (x, y) = true := by
          unfold F.pbP
          rw [F.any_get p (0, 0)]
          exact ⟨k, hkp, by simpa using c⟩
        unfold F.pb at hR
        rw [if_pos hz] at hR
        subst hR
        rw [ec, Prod.mk.injEq] at c
        refine ite_yes (by rw [decide_eq_true c.1, decide_eq_true c.2]; rfl) rfl
      · refine ite_no (fun g => c ?_) ⟨by unfold i64ok; omega, nx (fun m hm => ?_) R hR⟩
        · rw [ec, Prod.mk.injEq]
          simpa using g
        · by_cases em : m = k
          · rw [em]; exact c
          · exact ho m (by omega)
  refine Runs.go (cfg := C_sck) L_sck_ok mixed cuts_pby 400 hb (pby_t0 cx cy s w h l l_t p p_t x y) ?_
  have := h2 p.length 0 (by omega) (fun m hm => by omega) _ rfl
  simp only [T.wp, Aft, Int.ofNat_eq_natCast]
  exact this



noncomputable def s_pby : Summ cod := fun args H => match args, H with
  | [.agg [.int .i64 cx, .int .i64 cy, .int .i64 s, .int .i64 w, .int .i64 h], .c (.slc 0 l_i l_n l_t), .c (.slc 1 p_i p_n p_t), .agg [.int .i64 x, .int .i64 y]], [o0, o1] => (match o0.asNin 1 with | some l => (match o1.asInp 1 with | some p => .need ((l_i = 0 ∧ l_n = List.length l) ∧ (p_i = 0 ∧ p_n = List.length p) ∧ (F.vok cx cy s w h = true) ∧ (F.polsE l = 0) ∧ (F.ptsE p = 0) ∧ (l.length ≤ 12) ∧ (p.length ≤ 32) ∧ ((-1000000 ≤ x ∧ x ≤ 1000000) ∧ (-1000000 ≤ y ∧ y ≤ 1000000))) (.ret (.c (.int .u8 (F.pb (cx, cy, s, w, h) l p (x, y))), [])) | none => .fail) | none => .fail)
  | _, _ => .fail


theorem pby_sound : Sound Try.prog cod 8 s_pby := sound_runs (cfg := C_sck) L_sck_ok mixed Try.func8 rfl rfl _ fun args H r news hg b0 hb => by
  unfold s_pby at hg
  split at hg
  · skip
    split at hg
    · rename_i l hx0
      cases asNin_spec hx0
      split at hg
      · rename_i p hx1
        cases asInp_spec hx1
        simp only [T.gives, T.wp, Prod.mk.injEq] at hg
        obtain ⟨⟨⟨rfl, rfl⟩, ⟨rfl, rfl⟩, q2, q3, q4, q5, q6, q7⟩, rfl, rfl⟩ := hg
        exact pby_run _ _ _ _ _ _ _ _ _ _ _ b0 hb (by assumption) (by assumption) (by assumption) (by assumption) (by assumption) (by assumption)
      · exact hg.elim
    · exact hg.elim
  · exact hg.elim

noncomputable def L_pby : Sums cod := (8, .p s_pby) :: L_sck
noncomputable def C_pby : Cfg cod := mkC L_pby

theorem L_pby_ok : Snd Try.prog cod L_pby := .cons pby_sound L_sck_ok


end
end Go.Proofs.Ytbdhppceihcbnaa
