/- Part of a claim: lemmas on the way to its theorem; each states its own conditions. -/
import Derived.Test.YtbkpgpkeecnjpaaJc
namespace Go.Proofs.Ytbkpgpkeecnjpaa
open Sym Go.RowKit
noncomputable section
set_option maxRecDepth 100000
set_option maxHeartbeats 4000000


theorem mgl_t0 (dum : Nat) : symF C_cpt [] Try.f36.results.toList 3 400 [.code (codeOf Try.f36)] ⟨argsS Try.f36 [.c (.slc 0 0 2 true)], ([.rblk [.slc 1 0 1 true, .slc 2 0 1 true], .inp 2 [(0, 1, 0, 0, 0, 0)], .inp 2 [(0, 1, 0, 0, 0, 0)]] : Heap cod)⟩ =
.need (((0 : Int) ≤ 0 ∧ (0 : Int) < Int.ofNat 1)) (
.need ((0 + Int.toNat 0 : Nat) < 1) (
.need (i64ok (0 + 1)) (
.need (1 = 1) (
.need ((0 + 1 : Nat) ≤ 1000000) (
.need (i64ok (0 + 1)) (
.need (((0 : Int) ≤ 0 ∧ (0 : Int) < Int.ofNat 1)) (
.need ((0 + Int.toNat 0 : Nat) < 1) (
.need (i64ok (0 + 1)) (
.need (1 = 1) (
.need ((0 + 1 + 1 : Nat) ≤ 1000000) (
.need (i64ok (0 + 1 + 1)) (
.need ((2 : Nat) ≤ 1000000) (
.need ((0 + 1 + 1 = 2 ∧ (0 + 1 + 1 : Nat) ≤ 1000000)) (
.ret (.fin (.tup [.c (.slc 3 0 1 false), .c (.int .i64 0)]) [.own 2 (F.uqRow (F.sortP [(0, 1, 0, 0, 0, 0), (0, 1, 0, 0, 0, 0)])) 53]))))))))))))))) := by kernel_rfl



/-- Two feeds of one plot each, written out. -/
noncomputable def s_mgl : Summ cod := fun args H => match args, H with
  | [.c (.slc 0 0 2 true)], [.rblk [.slc 1 0 1 true, .slc 2 0 1 true], o1, o2] => (match o1.asInp 2 with
    | some l1 => (match o2.asInp 2 with
      | some l2 => .need (l1 = [(0, 1, 0, 0, 0, 0)] ∧ l2 = [(0, 1, 0, 0, 0, 0)]) (.ret (.tup [.c (.slc 3 0 1 false), .c (.int .i64 0)], [.own 2 (F.uqRow (F.sortP [(0, 1, 0, 0, 0, 0), (0, 1, 0, 0, 0, 0)])) 53]))
      | none => .fail)
    | none => .fail)
  | _, _ => .fail
noncomputable def s_mg : Summ cod := fun args H => match H with
  | [_] => s_mergeB args H
  | _ => s_mgl args H


theorem mgl_sound : Sound Try.prog cod 36 s_mgl := sound_runs (cfg := C_cpt) L_cpt_ok mixed Try.func36 rfl rfl _ fun args H r news hg b0 hb => by
  unfold s_mgl at hg
  split at hg
  · split at hg
    · rename_i l1 hx1
      split at hg
      · rename_i l2 hx2
        cases asInp_spec hx1
        cases asInp_spec hx2
        simp only [T.gives, T.wp, Prod.mk.injEq] at hg
        obtain ⟨⟨rfl, rfl⟩, rfl, rfl⟩ := hg
        refine Runs.go (cfg := C_cpt) L_cpt_ok mixed [] 400 hb (mgl_t0 0) ?_
        simp only [T.wp, Aft]
        unfold i64ok
        decide
      · exact hg.elim
    · exact hg.elim
  · exact hg.elim
theorem mg_sound : Sound Try.prog cod 36 s_mg := by
  refine ⟨mergeB_sound.enters, fun args H env w vs r news hro G ha hg => ?_⟩
  unfold s_mg at hg
  split at hg
  · exact mergeB_sound.calls args _ env w vs r news hro G ha hg
  · exact mgl_sound.calls args _ env w vs r news hro G ha hg

noncomputable def L_mg : Sums cod := (36, .p s_mg) :: L_cpt
noncomputable def C_mg : Cfg cod := mkC L_mg

theorem L_mg_ok : Snd Try.prog cod L_mg := .cons mg_sound L_cpt_ok



def cuts_bef : Cuts := []

theorem bef_t0 (a1 a2 a3 a4 a5 a6 : Int) (b1 b2 b3 b4 b5 b6 : Int) : symF C_mg cuts_bef Try.f62.results.toList 0 400 [.code (codeOf Try.f62)] ⟨argsS Try.f62 [.agg [.int .i64 a1, .int .i64 a2, .int .i64 a3, .int .i64 a4, .int .i64 a5, .int .i64 a6], .agg [.int .i64 b1, .int .i64 b2, .int .i64 b3, .int .i64 b4, .int .i64 b5, .int .i64 b6]], ([] : Heap cod)⟩ =
 cond (!decide (a2 = b2)) (
 .ret (.fin (.c (.bool (decide (a2 < b2)))) [])) (
 .need (i64ok (0 + 1)) (
 cond (!decide (a1 = b1)) (
  .ret (.fin (.c (.bool (decide (a1 < b1)))) [])) (
  .need (i64ok (0 + 1 + 1)) (
  cond (!decide (a3 = b3)) (
   .ret (.fin (.c (.bool (decide (a3 < b3)))) [])) (
   .need (i64ok (0 + 1 + 1 + 1)) (
   cond (!decide (a4 = b4)) (
    .ret (.fin (.c (.bool (decide (a4 < b4)))) [])) (
    .need (i64ok (0 + 1 + 1 + 1 + 1)) (
    cond (!decide (a5 = b5)) (
     .ret (.fin (.c (.bool (decide (a5 < b5)))) [])) (
     .need (i64ok (0 + 1 + 1 + 1 + 1 + 1)) (
     cond (!decide (a6 = b6)) (
      .ret (.fin (.c (.bool (decide (a6 < b6)))) [])) (
      .need (i64ok (0 + 1 + 1 + 1 + 1 + 1 + 1)) (
      .ret (.fin (.c (.bool false)) []))))))))))))) := by kernel_rfl



theorem bef_run (a1 a2 a3 a4 a5 a6 : Int) (b1 b2 b3 b4 b5 b6 : Int) (b0 : Base) (hb : b0.n = 0)  : Sym.Runs Try.prog b0 [.code (codeOf Try.f62)] ⟨argsS Try.f62 [.agg [.int .i64 a1, .int .i64 a2, .int .i64 a3, .int .i64 a4, .int .i64 a5, .int .i64 a6], .agg [.int .i64 b1, .int .i64 b2, .int .i64 b3, .int .i64 b4, .int .i64 b5, .int .i64 b6]], ([] : Heap cod)⟩ (Sym.Ends Try.prog Try.f62 0 (.c (.bool (decide (F.cmpP (a1, a2, a3, a4, a5, a6) (b1, b2, b3, b4, b5, b6) < 0)))) []) := by
  refine Runs.go (cfg := C_mg) L_mg_ok mixed cuts_bef 400 hb (bef_t0 a1 a2 a3 a4 a5 a6 b1 b2 b3 b4 b5 b6) ?_
  simp only [T.wp, T.wp_cond, Aft]
  have key : ∀ q : Bool, (q = true ↔ F.ltP (a1, a2, a3, a4, a5, a6) (b1, b2, b3, b4, b5, b6)) → SV.c (.bool q) = SV.c (.bool (decide (F.cmpP (a1, a2, a3, a4, a5, a6) (b1, b2, b3, b4, b5, b6) < 0))) ∧ True := fun q hq => by
    refine ⟨?_, trivial⟩
    have : q = decide (F.cmpP (a1, a2, a3, a4, a5, a6) (b1, b2, b3, b4, b5, b6) < 0) := by
      rw [Bool.eq_iff_iff, decide_eq_true_eq, cmpP_lt]
      exact hq
    rw [this]
  have no : ∀ {x y : Int}, x = y → ¬ (!decide (x = y)) = true := fun h => by simp [h]
  have yes : ∀ {x y : Int}, ¬ x = y → (!decide (x = y)) = true := fun h => by simp [h]
  unfold F.ltP at key
  simp only at key
  by_cases c2 : a2 = b2
  · refine ite_no (no c2) ⟨by unfold i64ok; decide, ?_⟩
    by_cases c1 : a1 = b1
    · refine ite_no (no c1) ⟨by unfold i64ok; decide, ?_⟩
      by_cases c3 : a3 = b3
      · refine ite_no (no c3) ⟨by unfold i64ok; decide, ?_⟩
        by_cases c4 : a4 = b4
        · refine ite_no (no c4) ⟨by unfold i64ok; decide, ?_⟩
          by_cases c5 : a5 = b5
          · refine ite_no (no c5) ⟨by unfold i64ok; decide, ?_⟩
            by_cases c6 : a6 = b6
            · refine ite_no (no c6) ⟨by unfold i64ok; decide, key false ?_⟩
              simp only [Bool.false_eq_true, false_iff]
              omega
            · refine ite_yes (yes c6) (key _ ?_)
              rw [decide_eq_true_eq]
              omega
          · refine ite_yes (yes c5) (key _ ?_)
            rw [decide_eq_true_eq]
            omega
        · refine ite_yes (yes c4) (key _ ?_)
          rw [decide_eq_true_eq]
          omega
      · refine ite_yes (yes c3) (key _ ?_)
        rw [decide_eq_true_eq]
        omega
    · refine ite_yes (yes c1) (key _ ?_)
      rw [decide_eq_true_eq]
      omega
  · refine ite_yes (yes c2) (key _ ?_)
    rw [decide_eq_true_eq]
    omega



noncomputable def s_bef : Summ cod := fun args H => match args, H with
  | [.agg [.int .i64 a1, .int .i64 a2, .int .i64 a3, .int .i64 a4, .int .i64 a5, .int .i64 a6], .agg [.int .i64 b1, .int .i64 b2, .int .i64 b3, .int .i64 b4, .int .i64 b5, .int .i64 b6]], [] => .ret (.c (.bool (decide (F.cmpP (a1, a2, a3, a4, a5, a6) (b1, b2, b3, b4, b5, b6) < 0))), [])
  | _, _ => .fail


theorem bef_sound : Sound Try.prog cod 62 s_bef := sound_runs (cfg := C_mg) L_mg_ok mixed Try.func62 rfl rfl _ fun args H r news hg b0 hb => by
  unfold s_bef at hg
  split at hg
  · skip
    cases hg
    exact bef_run _ _ _ _ _ _ _ _ _ _ _ _ b0 hb 
  · exact hg.elim

noncomputable def L_bef : Sums cod := (62, .p s_bef) :: L_mg
noncomputable def C_bef : Cfg cod := mkC L_bef

theorem L_bef_ok : Snd Try.prog cod L_bef := .cons bef_sound L_mg_ok



namespace F
def bk (p : Sp) (l : List Sp) : Nat → Nat → Nat
  | 0, j => j
  | q + 1, j => if cmpP (l.getD j sp0) p < 0 then bk p l q (j + 1) else j
def bkN (l : List Sp) (p : Sp) : Nat := bk p l l.length 0
def hasP (l : List Sp) (p : Sp) : Bool := decide (bkN l p < l.length) && decide (l.getD (bkN l p) sp0 = p)
def insL (l : List Sp) (p : Sp) : List Sp := l.take (bkN l p) ++ ([p] ++ l.drop (bkN l p))
def smN (a b : List Sp) (ai bi : Nat) : Nat → Nat → Bool
  | 0, _ => true
  | q + 1, i => decide (a.getD (ai + i) sp0 = b.getD (bi + i) sp0) && smN a b ai bi q (i + 1)
end F




def cuts_ins : Cuts := [(2, [0, 3, 5], 2)]

theorem ins_t0 (l : List (Int × Int × Int × Int × Int × Int)) (l_t : Bool) (p1 p2 p3 p4 p5 p6 : Int) : symF C_bef cuts_ins Try.f37.results.toList 1 400 [.code (codeOf Try.f37)] ⟨argsS Try.f37 [.c (.slc 0 0 (List.length l) l_t), .agg [.int .i64 p1, .int .i64 p2, .int .i64 p3, .int .i64 p4, .int .i64 p5, .int .i64 p6]], ([.inp 2 l] : Heap cod)⟩ =
.ret (.cut (cutAt Try.f37 2) ⟨tmG 39 [(0, .c (.slc 0 0 (List.length l) l_t)), (2, .c (.ptr 1 0 0)), (1, .c (.int .i64 0))], [.inp 2 l, .blk [.int .i64 p1, .int .i64 p2, .int .i64 p3, .int .i64 p4, .int .i64 p5, .int .i64 p6] 53]⟩) := by kernel_rfl


noncomputable def st_ins_2 (l : List (Int × Int × Int × Int × Int × Int)) (l_t : Bool) (p1 p2 p3 p4 p5 p6 : Int) (k : Int) : St cod := ⟨tmG 39 [(0, .c (.slc 0 0 (List.length l) l_t)), (2, .c (.ptr 1 0 0)), (1, .c (.int .i64 k))], [.inp 2 l, .blk [.int .i64 p1, .int .i64 p2, .int .i64 p3, .int .i64 p4, .int .i64 p5, .int .i64 p6] 53]⟩


theorem ins_t2 (l : List (Int × Int × Int × Int × Int × Int)) (l_t : Bool) (p1 p2 p3 p4 p5 p6 : Int) (k : Int) : symF C_bef cuts_ins Try.f37.results.toList 1 400 (cutAt Try.f37 2) (st_ins_2 l l_t p1 p2 p3 p4 p5 p6 k) =
 cond (decide (k < Int.ofNat (List.length l))) (
 .need (((0 : Int) ≤ k ∧ k < Int.ofNat (List.length l))) (
 .need (0 + Int.toNat k < List.length l) (
 cond (decide   (F.cmpP       ((List.getD l (0 + Int.toNat k) (cod 2).d).1, (List.getD l (0 + Int.toNat k) (cod 2).d).2.1,         (List.getD l (0 + Int.toNat k) (cod 2).d).2.2.1, (List.getD l (0 + Int.toNat k) (cod 2).d).2.2.2.1,         (List.getD l (0 + Int.toNat k) (cod 2).d).2.2.2.2.1, (List.getD l (0 + Int.toNat k) (cod 2).d).2.2.2.2.2)       (p1, p2, p3, p4, p5, p6) <     0)) (
  .need (i64ok (k + 1)) (
  .ret (.cut (cutAt Try.f37 2) ⟨tmG 39 [(0, .c (.slc 0 0 (List.length l) l_t)), (2, .c (.ptr 1 0 0)), (1, .c (.int .i64 (k + 1)))], [.inp 2 l, .blk [.int .i64 p1, .int .i64 p2, .int .i64 p3, .int .i64 p4, .int .i64 p5, .int .i64 p6] 53]⟩))) (
  cond (decide (k < Int.ofNat (List.length l))) (
   .need (((0 : Int) ≤ k ∧ k < Int.ofNat (List.length l))) (
   .need (0 + Int.toNat k < List.length l) (
   cond (decide ((List.getD l (0 + Int.toNat k) (cod 2).d).1 = p1) &&   (decide ((List.getD l (0 + Int.toNat k) (cod 2).d).2.1 = p2) &&     (decide ((List.getD l (0 + Int.toNat k) (cod 2).d).2.2.1 = p3) &&       (decide ((List.getD l (0 + Int.toNat k) (cod 2).d).2.2.2.1 = p4) &&         (decide ((List.getD l (0 + Int.toNat k) (cod 2).d).2.2.2.2.1 = p5) &&           decide ((List.getD l (0 + Int.toNat k) (cod 2).d).2.2.2.2.2 = p6)))))) (
    .ret (.fin (.c (.slc 0 0 (List.length l) l_t)) [])) (
    .need (((0 : Int) ≤ k ∧ k ≤ Int.ofNat (List.length l))) (
    .need (List.length (List.take (Int.toNat k) (List.drop 0 l)) = Int.toNat k) (
    .need (0 = 0) (
    .need (((0 : Nat) < List.length (List.take (Int.toNat k) (List.drop 0 l)) ∧ 0 + List.length (List.take (Int.toNat k) (List.drop 0 l)) ≤ 1000000)) (
    .need (1 = 1) (
    .need (0 + List.length (List.take (Int.toNat k) (List.drop 0 l)) + 1 ≤ 1000000) (
    .need (((0 : Int) ≤ k ∧ k ≤ Int.ofNat (List.length l))) (
    .need (List.length (List.take (List.length l - Int.toNat k) (List.drop (0 + Int.toNat k) l)) = List.length l - Int.toNat k) (
    .need (0 + List.length (List.take (Int.toNat k) (List.drop 0 l)) + 1 +     List.length (List.take (List.length l - Int.toNat k) (List.drop (0 + Int.toNat k) l)) ≤   1000000) (
    .ret (.fin (.c (.own 1 (0 + List.length (List.take (Int.toNat k) (List.drop 0 l)) + 1 +   List.length (List.take (List.length l - Int.toNat k) (List.drop (0 + Int.toNat k) l))))) [.own 2 ((([] ++ (List.take (Int.toNat k) (List.drop 0 l))) ++ ([(p1, p2, p3, p4, p5, p6)])) ++ (List.take (List.length l - Int.toNat k) (List.drop (0 + Int.toNat k) l))) 53])))))))))))))) (
   .need (((0 : Int) ≤ k ∧ k ≤ Int.ofNat (List.length l))) (
   .need (List.length (List.take (Int.toNat k) (List.drop 0 l)) = Int.toNat k) (
   .need (0 = 0) (
   .need (((0 : Nat) < List.length (List.take (Int.toNat k) (List.drop 0 l)) ∧ 0 + List.length (List.take (Int.toNat k) (List.drop 0 l)) ≤ 1000000)) (
   .need (1 = 1) (
   .need (0 + List.length (List.take (Int.toNat k) (List.drop 0 l)) + 1 ≤ 1000000) (
   .need (((0 : Int) ≤ k ∧ k ≤ Int.ofNat (List.length l))) (
   .need (List.length (List.take (List.length l - Int.toNat k) (List.drop (0 + Int.toNat k) l)) = List.length l - Int.toNat k) (
   .need (0 + List.length (List.take (Int.toNat k) (List.drop 0 l)) + 1 +     List.length (List.take (List.length l - Int.toNat k) (List.drop (0 + Int.toNat k) l)) ≤   1000000) (
   .ret (.fin (.c (.own 1 (0 + List.length (List.take (Int.toNat k) (List.drop 0 l)) + 1 +   List.length (List.take (List.length l - Int.toNat k) (List.drop (0 + Int.toNat k) l))))) [.own 2 ((([] ++ (List.take (Int.toNat k) (List.drop 0 l))) ++ ([(p1, p2, p3, p4, p5, p6)])) ++ (List.take (List.length l - Int.toNat k) (List.drop (0 + Int.toNat k) l))) 53]))))))))))))))) (
 cond (decide (k < Int.ofNat (List.length l))) (
  .need (((0 : Int) ≤ k ∧ k < Int.ofNat (List.length l))) (
  .need (0 + Int.toNat k < List.length l) (
  cond (decide ((List.getD l (0 + Int.toNat k) (cod 2).d).1 = p1) &&   (decide ((List.getD l (0 + Int.toNat k) (cod 2).d).2.1 = p2) &&     (decide ((List.getD l (0 + Int.toNat k) (cod 2).d).2.2.1 = p3) &&       (decide ((List.getD l (0 + Int.toNat k) (cod 2).d).2.2.2.1 = p4) &&         (decide ((List.getD l (0 + Int.toNat k) (cod 2).d).2.2.2.2.1 = p5) &&           decide ((List.getD l (0 + Int.toNat k) (cod 2).d).2.2.2.2.2 = p6)))))) (
   .ret (.fin (.c (.slc 0 0 (List.length l) l_t)) [])) (
   .need (((0 : Int) ≤ k ∧ k ≤ Int.ofNat (List.length l))) (
   .need (List.length (List.take (Int.toNat k) (List.drop 0 l)) = Int.toNat k) (
   .need (0 = 0) (
   .need (((0 : Nat) < List.length (List.take (Int.toNat k) (List.drop 0 l)) ∧ 0 + List.length (List.take (Int.toNat k) (List.drop 0 l)) ≤ 1000000)) (
   .need (1 = 1) (
   .need (0 + List.length (List.take (Int.toNat k) (List.drop 0 l)) + 1 ≤ 1000000) (
   .need (((0 : Int) ≤ k ∧ k ≤ Int.ofNat (List.length l))) (
   .need (List.length (List.take (List.length l - Int.toNat k) (List.drop (0 + Int.toNat k) l)) = List.length l - Int.toNat k) (
   .need (0 + List.length (List.take (Int.toNat k) (List.drop 0 l)) + 1 +     List.length (List.take (List.length l - Int.toNat k) (List.drop (0 + Int.toNat k) l)) ≤   1000000) (
   .ret (.fin (.c (.own 1 (0 + List.length (List.take (Int.toNat k) (List.drop 0 l)) + 1 +   List.length (List.take (List.length l - Int.toNat k) (List.drop (0 + Int.toNat k) l))))) [.own 2 ((([] ++ (List.take (Int.toNat k) (List.drop 0 l))) ++ ([(p1, p2, p3, p4, p5, p6)])) ++ (List.take (List.length l - Int.toNat k) (List.drop (0 + Int.toNat k) l))) 53])))))))))))))) (
  .need (((0 : Int) ≤ k ∧ k ≤ Int.ofNat (List.length l))) (
  .need (List.length (List.take (Int.toNat k) (List.drop 0 l)) = Int.toNat k) (
  .need (0 = 0) (
  .need (((0 : Nat) < List.length (List.take (Int.toNat k) (List.drop 0 l)) ∧ 0 + List.length (List.take (Int.toNat k) (List.drop 0 l)) ≤ 1000000)) (
  .need (1 = 1) (
  .need (0 + List.length (List.take (Int.toNat k) (List.drop 0 l)) + 1 ≤ 1000000) (
  .need (((0 : Int) ≤ k ∧ k ≤ Int.ofNat (List.length l))) (
  .need (List.length (List.take (List.length l - Int.toNat k) (List.drop (0 + Int.toNat k) l)) = List.length l - Int.toNat k) (
  .need (0 + List.length (List.take (Int.toNat k) (List.drop 0 l)) + 1 +     List.length (List.take (List.length l - Int.toNat k) (List.drop (0 + Int.toNat k) l)) ≤   1000000) (
  .ret (.fin (.c (.own 1 (0 + List.length (List.take (Int.toNat k) (List.drop 0 l)) + 1 +   List.length (List.take (List.length l - Int.toNat k) (List.drop (0 + Int.toNat k) l))))) [.own 2 ((([] ++ (List.take (Int.toNat k) (List.drop 0 l))) ++ ([(p1, p2, p3, p4, p5, p6)])) ++ (List.take (List.length l - Int.toNat k) (List.drop (0 + Int.toNat k) l))) 53])))))))))))) := by kernel_rfl


theorem ins_t2m (l : List (Int × Int × Int × Int × Int × Int)) (l_t : Bool) (p1 p2 p3 p4 p5 p6 : Int) (k : Int) : symF (Cfg.maybe C_bef) cuts_ins Try.f37.results.toList 1 400 (cutAt Try.f37 2) (st_ins_2 l l_t p1 p2 p3 p4 p5 p6 k) =
 cond (decide (k < Int.ofNat (List.length l))) (
 .need (((0 : Int) ≤ k ∧ k < Int.ofNat (List.length l))) (
 .need (0 + Int.toNat k < List.length l) (
 cond (decide   (F.cmpP       ((List.getD l (0 + Int.toNat k) (cod 2).d).1, (List.getD l (0 + Int.toNat k) (cod 2).d).2.1,         (List.getD l (0 + Int.toNat k) (cod 2).d).2.2.1, (List.getD l (0 + Int.toNat k) (cod 2).d).2.2.2.1,         (List.getD l (0 + Int.toNat k) (cod 2).d).2.2.2.2.1, (List.getD l (0 + Int.toNat k) (cod 2).d).2.2.2.2.2)       (p1, p2, p3, p4, p5, p6) <     0)) (
  .need (i64ok (k + 1)) (
  .ret (.cut (cutAt Try.f37 2) ⟨tmG 39 [(0, .c (.slc 0 0 (List.length l) l_t)), (2, .c (.ptr 1 0 0)), (1, .c (.int .i64 (k + 1)))], [.inp 2 l, .blk [.int .i64 p1, .int .i64 p2, .int .i64 p3, .int .i64 p4, .int .i64 p5, .int .i64 p6] 53]⟩))) (
  cond (decide (k < Int.ofNat (List.length l))) (
   .need (((0 : Int) ≤ k ∧ k < Int.ofNat (List.length l))) (
   .need (0 + Int.toNat k < List.length l) (
   cond (decide ((List.getD l (0 + Int.toNat k) (cod 2).d).1 = p1) &&   (decide ((List.getD l (0 + Int.toNat k) (cod 2).d).2.1 = p2) &&     (decide ((List.getD l (0 + Int.toNat k) (cod 2).d).2.2.1 = p3) &&       (decide ((List.getD l (0 + Int.toNat k) (cod 2).d).2.2.2.1 = p4) &&         (decide ((List.getD l (0 + Int.toNat k) (cod 2).d).2.2.2.2.1 = p5) &&           decide ((List.getD l (0 + Int.toNat k) (cod 2).d).2.2.2.2.2 = p6)))))) (
    .ret (.fin (.c (.slc 0 0 (List.length l) l_t)) [])) (
    .need (((0 : Int) ≤ k ∧ k ≤ Int.ofNat (List.length l))) (
    .need (List.length (List.take (Int.toNat k) (List.drop 0 l)) = Int.toNat k) (
    .ite (decide (List.length (List.take (Int.toNat k) (List.drop 0 l)) = 0)) (
     .need (1 = 1) (
     .ite (decide (1 = 0)) (
      .need (((0 : Int) ≤ k ∧ k ≤ Int.ofNat (List.length l))) (
      .need (List.length (List.take (List.length l - Int.toNat k) (List.drop (0 + Int.toNat k) l)) = List.length l - Int.toNat k) (
      .ite (decide (List.length (List.take (List.length l - Int.toNat k) (List.drop (0 + Int.toNat k) l)) = 0)) (
       .ret (.fin (.c (.slc 1 0 0 true)) [.arr 2 [] 53])) (
       .need (0 = 0) (
       .need (((0 : Nat) < List.length (List.take (List.length l - Int.toNat k) (List.drop (0 + Int.toNat k) l)) ∧ 0 + List.length (List.take (List.length l - Int.toNat k) (List.drop (0 + Int.toNat k) l)) ≤ 1000000)) (
       .ret (.fin (.c (.own 1 (0 + List.length (List.take (List.length l - Int.toNat k) (List.drop (0 + Int.toNat k) l))))) [.own 2 ([] ++ (List.take (List.length l - Int.toNat k) (List.drop (0 + Int.toNat k) l))) 53]))))))) (
      .need (0 = 0) (
      .need (((0 : Nat) < 1 ∧ (0 + 1 : Nat) ≤ 1000000)) (
      .need (((0 : Int) ≤ k ∧ k ≤ Int.ofNat (List.length l))) (
      .need (List.length (List.take (List.length l - Int.toNat k) (List.drop (0 + Int.toNat k) l)) = List.length l - Int.toNat k) (
      .need (0 + 1 + List.length (List.take (List.length l - Int.toNat k) (List.drop (0 + Int.toNat k) l)) ≤ 1000000) (
      .ret (.fin (.c (.own 1 (0 + 1 + List.length (List.take (List.length l - Int.toNat k) (List.drop (0 + Int.toNat k) l))))) [.own 2 (([] ++ ([(p1, p2, p3, p4, p5, p6)])) ++ (List.take (List.length l - Int.toNat k) (List.drop (0 + Int.toNat k) l))) 53]))))))))) (
     .need (0 = 0) (
     .need (((0 : Nat) < List.length (List.take (Int.toNat k) (List.drop 0 l)) ∧ 0 + List.length (List.take (Int.toNat k) (List.drop 0 l)) ≤ 1000000)) (
     .need (1 = 1) (
     .need (0 + List.length (List.take (Int.toNat k) (List.drop 0 l)) + 1 ≤ 1000000) (
     .need (((0 : Int) ≤ k ∧ k ≤ Int.ofNat (List.length l))) (
     .need (List.length (List.take (List.length l - Int.toNat k) (List.drop (0 + Int.toNat k) l)) = List.length l - Int.toNat k) (
     .need (0 + List.length (List.take (Int.toNat k) (List.drop 0 l)) + 1 +     List.length (List.take (List.length l - Int.toNat k) (List.drop (0 + Int.toNat k) l)) ≤   1000000) (
     .ret (.fin (.c (.own 1 (0 + List.length (List.take (Int.toNat k) (List.drop 0 l)) + 1 +   List.length (List.take (List.length l - Int.toNat k) (List.drop (0 + Int.toNat k) l))))) [.own 2 ((([] ++ (List.take (Int.toNat k) (List.drop 0 l))) ++ ([(p1, p2, p3, p4, p5, p6)])) ++ (List.take (List.length l - Int.toNat k) (List.drop (0 + Int.toNat k) l))) 53]))))))))))))))) (
   .need (((0 : Int) ≤ k ∧ k ≤ Int.ofNat (List.length l))) (
   .need (List.length (List.take (Int.toNat k) (List.drop 0 l)) = Int.toNat k) (
   .ite (decide (List.length (List.take (Int.toNat k) (List.drop 0 l)) = 0)) (
    .need (1 = 1) (
    .ite (decide (1 = 0)) (
     .need (((0 : Int) ≤ k ∧ k ≤ Int.ofNat (List.length l))) (
     .need (List.length (List.take (List.length l - Int.toNat k) (List.drop (0 + Int.toNat k) l)) = List.length l - Int.toNat k) (
     .ite (decide (List.length (List.take (List.length l - Int.toNat k) (List.drop (0 + Int.toNat k) l)) = 0)) (
      .ret (.fin (.c (.slc 1 0 0 true)) [.arr 2 [] 53])) (
      .need (0 = 0) (
      .need (((0 : Nat) < List.length (List.take (List.length l - Int.toNat k) (List.drop (0 + Int.toNat k) l)) ∧ 0 + List.length (List.take (List.length l - Int.toNat k) (List.drop (0 + Int.toNat k) l)) ≤ 1000000)) (
      .ret (.fin (.c (.own 1 (0 + List.length (List.take (List.length l - Int.toNat k) (List.drop (0 + Int.toNat k) l))))) [.own 2 ([] ++ (List.take (List.length l - Int.toNat k) (List.drop (0 + Int.toNat k) l))) 53]))))))) (
     .need (0 = 0) (
     .need (((0 : Nat) < 1 ∧ (0 + 1 : Nat) ≤ 1000000)) (
     .need (((0 : Int) ≤ k ∧ k ≤ Int.ofNat (List.length l))) (
     .need (List.length (List.take (List.length l - Int.toNat k) (List.drop (0 + Int.toNat k) l)) = List.length l - Int.toNat k) (
     .need (0 + 1 + List.length (List.take (List.length l - Int.toNat k) (List.drop (0 + Int.toNat k) l)) ≤ 1000000) (
     .ret (.fin (.c (.own 1 (0 + 1 + List.length (List.take (List.length l - Int.toNat k) (List.drop (0 + Int.toNat k) l))))) [.own 2 (([] ++ ([(p1, p2, p3, p4, p5, p6)])) ++ (List.take (List.length l - Int.toNat k) (List.drop (0 + Int.toNat k) l))) 53]))))))))) (
    .need (0 = 0) (
    .need (((0 : Nat) < List.length (List.take (Int.toNat k) (List.drop 0 l)) ∧ 0 + List.length (List.take (Int.toNat k) (List.drop 0 l)) ≤ 1000000)) (
    .need (1 = 1) (
    .need (0 + List.length (List.take (Int.toNat k) (List.drop 0 l)) + 1 ≤ 1000000) (
    .need (((0 : Int) ≤ k ∧ k ≤ Int.ofNat (List.length l))) (
    .need (List.length (List.take (List.length l - Int.toNat k) (List.drop (0 + Int.toNat k) l)) = List.length l - Int.toNat k) (
    .need (0 + List.length (List.take (Int.toNat k) (List.drop 0 l)) + 1 +     List.length (List.take (List.length l - Int.toNat k) (List.drop (0 + Int.toNat k) l)) ≤   1000000) (
    .ret (.fin (.c (.own 1 (0 + List.length (List.take (Int.toNat k) (List.drop 0 l)) + 1 +   List.length (List.take (List.length l - Int.toNat k) (List.drop (0 + Int.toNat k) l))))) [.own 2 ((([] ++ (List.take (Int.toNat k) (List.drop 0 l))) ++ ([(p1, p2, p3, p4, p5, p6)])) ++ (List.take (List.length l - Int.toNat k) (List.drop (0 + Int.toNat k) l))) 53])))))))))))))))) (
 cond (decide (k < Int.ofNat (List.length l))) (
  .need (((0 : Int) ≤ k ∧ k < Int.ofNat (List.length l))) (
  .need (0 + Int.toNat k < List.length l) (
  cond (decide ((List.getD l (0 + Int.toNat k) (cod 2).d).1 = p1) &&   (decide ((List.getD l (0 + Int.toNat k) (cod 2).d).2.1 = p2) &&     (decide ((List.getD l (0 + Int.toNat k) (cod 2).d).2.2.1 = p3) &&       (decide ((List.getD l (0 + Int.toNat k) (cod 2).d).2.2.2.1 = p4) &&         (decide ((List.getD l (0 + Int.toNat k) (cod 2).d).2.2.2.2.1 = p5) &&           decide ((List.getD l (0 + Int.toNat k) (cod 2).d).2.2.2.2.2 = p6)))))) (
   .ret (.fin (.c (.slc 0 0 (List.length l) l_t)) [])) (
   .need (((0 : Int) ≤ k ∧ k ≤ Int.ofNat (List.length l))) (
   .need (List.length (List.take (Int.toNat k) (List.drop 0 l)) = Int.toNat k) (
   .ite (decide (List.length (List.take (Int.toNat k) (List.drop 0 l)) = 0)) (
    .need (1 = 1) (
    .ite (decide (1 = 0)) (
     .need (((0 : Int) ≤ k ∧ k ≤ Int.ofNat (List.length l))) (
     .need (List.length (List.take (List.length l - Int.toNat k) (List.drop (0 + Int.toNat k) l)) = List.length l - Int.toNat k) (
     .ite (decide (List.length (List.take (List.length l - Int.toNat k) (List.drop (0 + Int.toNat k) l)) = 0)) (
      .ret (.fin (.c (.slc 1 0 0 true)) [.arr 2 [] 53])) (
      .need (0 = 0) (
      .need (((0 : Nat) < List.length (List.take (List.length l - Int.toNat k) (List.drop (0 + Int.toNat k) l)) ∧ 0 + List.length (List.take (List.length l - Int.toNat k) (List.drop (0 + Int.toNat k) l)) ≤ 1000000)) (
      .ret (.fin (.c (.own 1 (0 + List.length (List.take (List.length l - Int.toNat k) (List.drop (0 + Int.toNat k) l))))) [.own 2 ([] ++ (List.take (List.length l - Int.toNat k) (List.drop (0 + Int.toNat k) l))) 53]))))))) (
     .need (0 = 0) (
     .need (((0 : Nat) < 1 ∧ (0 + 1 : Nat) ≤ 1000000)) (
     .need (((0 : Int) ≤ k ∧ k ≤ Int.ofNat (List.length l))) (
     .need (List.length (List.take (List.length l - Int.toNat k) (List.drop (0 + Int.toNat k) l)) = List.length l - Int.toNat k) (
     .need (0 + 1 + List.length (List.take (List.length l - Int.toNat k) (List.drop (0 + Int.toNat k) l)) ≤ 1000000) (
     .ret (.fin (.c (.own 1 (0 + 1 + List.length (List.take (List.length l - Int.toNat k) (List.drop (0 + Int.toNat k) l))))) [.own 2 (([] ++ ([(p1, p2, p3, p4, p5, p6)])) ++ (List.take (List.length l - Int.toNat k) (List.drop (0 + Int.toNat k) l))) 53]))))))))) (
    .need (0 = 0) (
    .need (((0 : Nat) < List.length (List.take (Int.toNat k) (List.drop 0 l)) ∧ 0 + List.length (List.take (Int.toNat k) (List.drop 0 l)) ≤ 1000000)) (
    .need (1 = 1) (
    .need (0 + List.length (List.take (Int.toNat k) (List.drop 0 l)) + 1 ≤ 1000000) (
    .need (((0 : Int) ≤ k ∧ k ≤ Int.ofNat (List.length l))) (
    .need (List.length (List.take (List.length l - Int.toNat k) (List.drop (0 + Int.toNat k) l)) = List.length l - Int.toNat k) (
    .need (0 + List.length (List.take (Int.toNat k) (List.drop 0 l)) + 1 +     List.length (List.take (List.length l - Int.toNat k) (List.drop (0 + Int.toNat k) l)) ≤   1000000) (
    .ret (.fin (.c (.own 1 (0 + List.length (List.take (Int.toNat k) (List.drop 0 l)) + 1 +   List.length (List.take (List.length l - Int.toNat k) (List.drop (0 + Int.toNat k) l))))) [.own 2 ((([] ++ (List.take (Int.toNat k) (List.drop 0 l))) ++ ([(p1, p2, p3, p4, p5, p6)])) ++ (List.take (List.length l - Int.toNat k) (List.drop (0 + Int.toNat k) l))) 53]))))))))))))))) (
  .need (((0 : Int) ≤ k ∧ k ≤ Int.ofNat (List.length l))) (
  .need (List.length (List.take (Int.toNat k) (List.drop 0 l)) = Int.toNat k) (
  .ite (decide (List.length (List.take (Int.toNat k) (List.drop 0 l)) = 0)) (
   .need (1 = 1) (
   .ite (decide (1 = 0)) (
    .need (((0 : Int) ≤ k ∧ k ≤ Int.ofNat (List.length l))) (
    .need (List.length (List.take (List.length l - Int.toNat k) (List.drop (0 + Int.toNat k) l)) = List.length l - Int.toNat k) (
    .ite (decide (List.length (List.take (List.length l - Int.toNat k) (List.drop (0 + Int.toNat k) l)) = 0)) (
     .ret (.fin (.c (.slc 1 0 0 true)) [.arr 2 [] 53])) (
     .need (0 = 0) (
     .need (((0 : Nat) < List.length (List.take (List.length l - Int.toNat k) (List.drop (0 + Int.toNat k) l)) ∧ 0 + List.length (List.take (List.length l - Int.toNat k) (List.drop (0 + Int.toNat k) l)) ≤ 1000000)) (
     .ret (.fin (.c (.own 1 (0 + List.length (List.take (List.length l - Int.toNat k) (List.drop (0 + Int.toNat k) l))))) [.own 2 ([] ++ (List.take (List.length l - Int.toNat k) (List.drop (0 + Int.toNat k) l))) 53]))))))) (
    .need (0 = 0) (
    .need (((0 : Nat) < 1 ∧ (0 + 1 : Nat) ≤ 1000000)) (
    .need (((0 : Int) ≤ k ∧ k ≤ Int.ofNat (List.length l))) (
    .need (List.length (List.take (List.length l - Int.toNat k) (List.drop (0 + Int.toNat k) l)) = List.length l - Int.toNat k) (
    .need (0 + 1 + List.length (List.take (List.length l - Int.toNat k) (List.drop (0 + Int.toNat k) l)) ≤ 1000000) (
    .ret (.fin (.c (.own 1 (0 + 1 + List.length (List.take (List.length l - Int.toNat k) (List.drop (0 + Int.toNat k) l))))) [.own 2 (([] ++ ([(p1, p2, p3, p4, p5, p6)])) ++ (List.take (List.length l - Int.toNat k) (List.drop (0 + Int.toNat k) l))) 53]))))))))) (
   .need (0 = 0) (
   .need (((0 : Nat) < List.length (List.take (Int.toNat k) (List.drop 0 l)) ∧ 0 + List.length (List.take (Int.toNat k) (List.drop 0 l)) ≤ 1000000)) (
   .need (1 = 1) (
   .need (0 + List.length (List.take (Int.toNat k) (List.drop 0 l)) + 1 ≤ 1000000) (
   .need (((0 : Int) ≤ k ∧ k ≤ Int.ofNat (List.length l))) (
   .need (List.length (List.take (List.length l - Int.toNat k) (List.drop (0 + Int.toNat k) l)) = List.length l - Int.toNat k) (
   .need (0 + List.length (List.take (Int.toNat k) (List.drop 0 l)) + 1 +     List.length (List.take (List.length l - Int.toNat k) (List.drop (0 + Int.toNat k) l)) ≤   1000000) (
   .ret (.fin (.c (.own 1 (0 + List.length (List.take (Int.toNat k) (List.drop 0 l)) + 1 +   List.length (List.take (List.length l - Int.toNat k) (List.drop (0 + Int.toNat k) l))))) [.own 2 ((([] ++ (List.take (Int.toNat k) (List.drop 0 l))) ++ ([(p1, p2, p3, p4, p5, p6)])) ++ (List.take (List.length l - Int.toNat k) (List.drop (0 + Int.toNat k) l))) 53]))))))))))))) := by kernel_rfl



theorem take_take_drop (l : List F.Sp) (k : Nat) : List.take (l.length - k) (List.drop k l) = List.drop k l := List.take_of_length_le (by rw [List.length_drop]; omega)
theorem bk_spec (p : F.Sp) (l : List F.Sp) : ∀ (q j : Nat), j + q = l.length → j ≤ F.bk p l q j ∧ F.bk p l q j ≤ l.length ∧ (∀ i, j ≤ i → i < F.bk p l q j → F.cmpP (l.getD i F.sp0) p < 0) ∧ (F.bk p l q j < l.length → ¬ F.cmpP (l.getD (F.bk p l q j) F.sp0) p < 0)
  | 0, j, h => by
    simp only [F.bk]
    exact ⟨Nat.le_refl _, by omega, fun i h1 h2 => by omega, fun h1 => by omega⟩
  | q + 1, j, h => by
    rw [F.bk]
    split
    · rename_i hc
      obtain ⟨h1, h2, h3, h4⟩ := bk_spec p l q (j + 1) (by omega)
      refine ⟨by omega, h2, fun i g1 g2 => ?_, h4⟩
      rcases Nat.lt_or_ge j i with e | e
      · exact h3 i (by omega) g2
      · have : i = j := by omega
        subst this
        exact hc
    · rename_i hc
      exact ⟨Nat.le_refl _, by omega, fun i h1 h2 => by omega, fun _ => hc⟩
theorem ins_end (l : List F.Sp) (l_t : Bool) (p1 p2 p3 p4 p5 p6 : Int) (b0 : Base) (hb : b0.n = 1) (h1000 : l.length ≤ 1000) (R : SV) (N : Heap cod)
    (hY : F.hasP l (p1, p2, p3, p4, p5, p6) = true → SV.c (.slc 0 0 (List.length l) l_t) = R ∧ [] = N) (hN : F.hasP l (p1, p2, p3, p4, p5, p6) = false → SV.c (.own 1 (List.length l + 1)) = R ∧ [.own 2 (F.insL l (p1, p2, p3, p4, p5, p6)) 53] = N) :
    ∀ (q : Nat) (k : Int), 0 ≤ k → k + q = l.length → F.bkN l (p1, p2, p3, p4, p5, p6) = F.bk (p1, p2, p3, p4, p5, p6) l q k.toNat →
    Sym.Runs Try.prog b0 (cutAt Try.f37 2) (st_ins_2 l l_t p1 p2 p3 p4 p5 p6 k) (Sym.Ends Try.prog Try.f37 1 R N) := by
  intro q
  -- the last part
  have fin : ∀ (k : Int), 0 ≤ k → k ≤ l.length → F.bkN l (p1, p2, p3, p4, p5, p6) = k.toNat → F.hasP l (p1, p2, p3, p4, p5, p6) = false →
      (if List.length (List.take k.toNat l) = 0 then (SV.c (.own 1 (1 + List.length (List.drop k.toNat l))) = R ∧ [.own 2 ([(p1, p2, p3, p4, p5, p6)] ++ List.drop k.toNat l) 53] = N) else (SV.c (.own 1 (List.length (List.take k.toNat l) + 1 + List.length (List.drop k.toNat l))) = R ∧ [.own 2 ((List.take k.toNat l ++ [(p1, p2, p3, p4, p5, p6)]) ++ List.drop k.toNat l) 53] = N)) := fun k h0 h1 hk hP => by
    obtain ⟨g1, g2⟩ := hN hP
    unfold F.insL at g2
    rw [hk] at g2
    have e1 : (List.take k.toNat l).length = k.toNat := by rw [List.length_take]; omega
    have e2 : (List.drop k.toNat l).length = l.length - k.toNat := List.length_drop
    split
    · rename_i hz
      have ht := List.eq_nil_of_length_eq_zero hz
      rw [ht, List.nil_append] at g2
      rw [← g1, ← g2, e2]
      refine ⟨?_, rfl⟩
      congr 2
      omega
    · rw [← g1, ← g2, e1, e2, List.append_assoc]
      refine ⟨?_, rfl⟩
      congr 2
      omega
  induction q with
  | zero =>
    intro k h0 hk hE
    rw [F.bk] at hE
    have hP : F.hasP l (p1, p2, p3, p4, p5, p6) = false := by
      unfold F.hasP
      rw [decide_eq_false (by omega)]
      rfl
    have hf := fin k h0 (by omega) hE hP
    refine Runs.go (cfg := Cfg.maybe C_bef) (CfgFit.maybe L_bef_ok) mixed cuts_ins 400 hb (ins_t2m l l_t p1 p2 p3 p4 p5 p6 k) ?_
    simp only [T.wp, T.wp_cond, Aft, decide_eq_true_eq, Nat.zero_add, List.drop_zero, List.nil_append, take_take_drop]
    have i1 : (0 : Int) ≤ k ∧ k ≤ Int.ofNat l.length := by simp only [Int.ofNat_eq_natCast]; omega
    have e1 : (List.take k.toNat l).length = k.toNat := by rw [List.length_take]; omega
    have e2 : (List.drop k.toNat l).length = l.length - k.toNat := List.length_drop
    have hlt : ¬ k < Int.ofNat l.length := by simp only [Int.ofNat_eq_natCast]; omega
    exact ite_no hlt (ite_no hlt ⟨i1, e1, fun hz => ⟨trivial, fun h => absurd h (by decide), fun _ => ⟨trivial, ⟨by decide, by decide⟩, i1, e2, by omega, by rw [if_pos (of_decide_eq_true (decide_eq_true hz))] at hf; exact hf⟩⟩, fun hz => ⟨trivial, ⟨by have := of_decide_eq_false hz; omega, by omega⟩, trivial, by omega, i1, e2, by omega, by rw [if_neg (of_decide_eq_false hz)] at hf; exact hf⟩⟩)
  | succ q ih =>
    intro k h0 hk hE
    have hkl : k.toNat < l.length := by omega
    have hk1 : (k + 1).toNat = k.toNat + 1 := by omega
    rw [F.bk] at hE
    refine Runs.go (cfg := Cfg.maybe C_bef) (CfgFit.maybe L_bef_ok) mixed cuts_ins 400 hb (ins_t2m l l_t p1 p2 p3 p4 p5 p6 k) ?_
    simp only [T.wp, T.wp_cond, Aft, decide_eq_true_eq, Nat.zero_add, List.drop_zero, List.nil_append, take_take_drop]
    have i0 : (0 : Int) ≤ k ∧ k < Int.ofNat l.length := by simp only [Int.ofNat_eq_natCast]; omega
    have i1 : (0 : Int) ≤ k ∧ k ≤ Int.ofNat l.length := by simp only [Int.ofNat_eq_natCast]; omega
    have e1 : (List.take k.toNat l).length = k.toNat := by rw [List.length_take]; omega
    have e2 : (List.drop k.toNat l).length = l.length - k.toNat := List.length_drop
    refine ite_yes i0.2 ⟨i0, hkl, ?_⟩
    by_cases c : F.cmpP (l.getD k.toNat F.sp0) (p1, p2, p3, p4, p5, p6) < 0
    · rw [if_pos c] at hE
      have nx := ih (k + 1) (by omega) (by omega) (by rw [hk1]; exact hE)
      exact ite_yes c ⟨by unfold i64ok; omega, nx⟩
    · rw [if_neg c] at hE
      refine ite_no c (ite_yes i0.2 ⟨i0, hkl, ?_⟩)
      by_cases c2 : l.getD k.toNat F.sp0 = (p1, p2, p3, p4, p5, p6)
      · have hP : F.hasP l (p1, p2, p3, p4, p5, p6) = true := by
          unfold F.hasP
          rw [hE, decide_eq_true hkl, decide_eq_true c2]
          rfl
        refine ite_yes ?_ (hY hP)
        change F.e6 (l.getD k.toNat F.sp0) (p1, p2, p3, p4, p5, p6) = true
        rw [eq6, decide_eq_true c2]
      · have hP : F.hasP l (p1, p2, p3, p4, p5, p6) = false := by
          unfold F.hasP
          rw [hE, decide_eq_false c2, Bool.and_false]
        have hf := fin k h0 (by omega) hE hP
        refine ite_no ?_ ⟨i1, e1, fun hz => ⟨trivial, fun h => absurd h (by decide), fun _ => ⟨trivial, ⟨by decide, by decide⟩, i1, e2, by omega, by rw [if_pos (of_decide_eq_true (decide_eq_true hz))] at hf; exact hf⟩⟩, fun hz => ⟨trivial, ⟨by have := of_decide_eq_false hz; omega, by omega⟩, trivial, by omega, i1, e2, by omega, by rw [if_neg (of_decide_eq_false hz)] at hf; exact hf⟩⟩
        change ¬ F.e6 (l.getD k.toNat F.sp0) (p1, p2, p3, p4, p5, p6) = true
        rw [eq6, decide_eq_false c2]
        decide
theorem ins_gen (l : List F.Sp) (l_t : Bool) (p1 p2 p3 p4 p5 p6 : Int) (b0 : Base) (hb : b0.n = 1) (h1000 : l.length ≤ 1000) (R : SV) (N : Heap cod)
    (hY : F.hasP l (p1, p2, p3, p4, p5, p6) = true → SV.c (.slc 0 0 (List.length l) l_t) = R ∧ [] = N) (hN : F.hasP l (p1, p2, p3, p4, p5, p6) = false → SV.c (.own 1 (List.length l + 1)) = R ∧ [.own 2 (F.insL l (p1, p2, p3, p4, p5, p6)) 53] = N) :
    Sym.Runs Try.prog b0 [.code (codeOf Try.f37)] ⟨argsS Try.f37 [.c (.slc 0 0 (List.length l) l_t), .agg [.int .i64 p1, .int .i64 p2, .int .i64 p3, .int .i64 p4, .int .i64 p5, .int .i64 p6]], ([.inp 2 l] : Heap cod)⟩ (Sym.Ends Try.prog Try.f37 1 R N) := by
  refine Runs.go (cfg := C_bef) L_bef_ok mixed cuts_ins 400 hb (ins_t0 l l_t p1 p2 p3 p4 p5 p6) ?_
  simp only [T.wp, T.wp_cond, Aft]
  exact ins_end l l_t p1 p2 p3 p4 p5 p6 b0 hb h1000 R N hY hN l.length 0 (by omega) (by omega) rfl
theorem ins_run (l : List (Int × Int × Int × Int × Int × Int)) (l_t : Bool) (p1 p2 p3 p4 p5 p6 : Int) (b0 : Base) (hb : b0.n = 1) (h0 : List.length l ≤ 1000) (h1 : F.hasP l (p1, p2, p3, p4, p5, p6) = false) : Sym.Runs Try.prog b0 [.code (codeOf Try.f37)] ⟨argsS Try.f37 [.c (.slc 0 0 (List.length l) l_t), .agg [.int .i64 p1, .int .i64 p2, .int .i64 p3, .int .i64 p4, .int .i64 p5, .int .i64 p6]], ([.inp 2 l] : Heap cod)⟩ (Sym.Ends Try.prog Try.f37 1 (.c (.own 1 (List.length l + 1))) [.own 2 (F.insL l (p1, p2, p3, p4, p5, p6)) 53]) := by
  exact ins_gen l l_t p1 p2 p3 p4 p5 p6 b0 hb h0 _ _ (fun h => by rw [h1] at h; cases h) (fun _ => ⟨rfl, rfl⟩)



noncomputable def s_ins : Summ cod := fun args H => match args, H with
  | [.c (.slc 0 l_i l_n l_t), .agg [.int .i64 p1, .int .i64 p2, .int .i64 p3, .int .i64 p4, .int .i64 p5, .int .i64 p6]], [o0] => (match o0.asInp 2 with | some l => .need ((l_i = 0 ∧ l_n = List.length l) ∧ (List.length l ≤ 1000) ∧ (F.hasP l (p1, p2, p3, p4, p5, p6) = false)) (.ret (.c (.own 1 (List.length l + 1)), [.own 2 (F.insL l (p1, p2, p3, p4, p5, p6)) 53])) | none => .fail)
  | _, _ => .fail


theorem ins_sound : Sound Try.prog cod 37 s_ins := sound_runs (cfg := C_bef) L_bef_ok mixed Try.func37 rfl rfl _ fun args H r news hg b0 hb => by
  unfold s_ins at hg
  split at hg
  · skip
    split at hg
    · rename_i l hx0
      cases asInp_spec hx0
      simp only [T.gives, T.wp, Prod.mk.injEq] at hg
      obtain ⟨⟨⟨rfl, rfl⟩, q1, q2⟩, rfl, rfl⟩ := hg
      exact ins_run _ _ _ _ _ _ _ _ b0 hb (by assumption) (by assumption)
    · exact hg.elim
  · exact hg.elim

noncomputable def L_ins : Sums cod := (37, .p s_ins) :: L_bef
noncomputable def C_ins : Cfg cod := mkC L_ins

theorem L_ins_ok : Snd Try.prog cod L_ins := .cons ins_sound L_bef_ok



noncomputable def s_insB : Summ cod := fun args H => match args, H with
  | [.c (.slc 0 li ln lt), .agg [.int .i64 p1, .int .i64 p2, .int .i64 p3, .int .i64 p4, .int .i64 p5, .int .i64 p6]], [o0] => (match o0.asInp 2 with
    | some l => .need ((li = 0 ∧ ln = List.length l) ∧ List.length l ≤ 1000)
          (.ite (F.hasP l (p1, p2, p3, p4, p5, p6)) (.ret (.c (.slc 0 0 ln lt), [])) (.ret (.c (.own 1 (ln + 1)), [.own 2 (F.insL l (p1, p2, p3, p4, p5, p6)) 53])))
    | none => .fail)
  | _, _ => .fail


theorem insB_sound : Sound Try.prog cod 37 s_insB := sound_runs (cfg := C_bef) L_bef_ok mixed Try.func37 rfl rfl _ fun args H r news hg b0 hb => by
  unfold s_insB at hg
  split at hg
  · skip
    split at hg
    · rename_i l hx0
      cases asInp_spec hx0
      simp only [T.gives, T.wp, Prod.mk.injEq] at hg
      obtain ⟨⟨⟨rfl, rfl⟩, h1000⟩, g1, g2⟩ := hg
      exact ins_gen l _ _ _ _ _ _ _ b0 hb h1000 r news g1 g2
    · exact hg.elim
  · exact hg.elim

noncomputable def L_insB : Sums cod := (37, .p s_insB) :: L_ins
noncomputable def C_insB : Cfg cod := mkC L_insB

theorem L_insB_ok : Snd Try.prog cod L_insB := .cons insB_sound L_ins_ok



def cuts_same : Cuts := [(4, [1, 0, 12, 13], 2)]

theorem same_t0 (a : List (Int × Int × Int × Int × Int × Int)) (a_t : Bool) (a_i a_n : Nat) (b : List (Int × Int × Int × Int × Int × Int)) (b_t : Bool) (b_i b_n : Nat) : symF C_insB cuts_same Try.f38.results.toList 2 400 [.code (codeOf Try.f38)] ⟨argsS Try.f38 [.c (.slc 0 a_i a_n a_t), .c (.slc 1 b_i b_n b_t)], ([.inp 2 a, .inp 2 b] : Heap cod)⟩ =
 cond (!decide (Int.ofNat a_n = Int.ofNat b_n)) (
 .ret (.fin (.c (.bool false)) [])) (
 .ret (.cut (cutAt Try.f38 4) ⟨tmG 12 [(0, .c (.slc 0 (a_i) (a_n) a_t)), (0, .c (.slc 1 (b_i) (b_n) b_t)), (10, .c (.int .i64 (Int.ofNat a_n))), (0, .c (.int .i64 0))], [.inp 2 a, .inp 2 b]⟩)) := by kernel_rfl


noncomputable def st_same_4 (a : List (Int × Int × Int × Int × Int × Int)) (a_t : Bool) (a_i a_n : Nat) (b : List (Int × Int × Int × Int × Int × Int)) (b_t : Bool) (b_i b_n : Nat) (i : Int) : St cod := ⟨tmG 12 [(0, .c (.slc 0 (a_i) (a_n) a_t)), (0, .c (.slc 1 (b_i) (b_n) b_t)), (10, .c (.int .i64 (Int.ofNat a_n))), (0, .c (.int .i64 i))], [.inp 2 a, .inp 2 b]⟩


theorem same_t4 (a : List (Int × Int × Int × Int × Int × Int)) (a_t : Bool) (a_i a_n : Nat) (b : List (Int × Int × Int × Int × Int × Int)) (b_t : Bool) (b_i b_n : Nat) (i : Int) : symF C_insB cuts_same Try.f38.results.toList 2 400 (cutAt Try.f38 4) (st_same_4 a a_t a_i a_n b b_t b_i b_n i) =
 cond (decide (i < Int.ofNat a_n)) (
 .need (((0 : Int) ≤ i ∧ i < Int.ofNat a_n)) (
 .need (a_i + Int.toNat i < List.length a) (
 .need (((0 : Int) ≤ i ∧ i < Int.ofNat b_n)) (
 .need (b_i + Int.toNat i < List.length b) (
 cond (!(decide ((List.getD a (a_i + Int.toNat i) (cod 2).d).1 = (List.getD b (b_i + Int.toNat i) (cod 2).d).1) &&     (decide ((List.getD a (a_i + Int.toNat i) (cod 2).d).2.1 = (List.getD b (b_i + Int.toNat i) (cod 2).d).2.1) &&       (decide ((List.getD a (a_i + Int.toNat i) (cod 2).d).2.2.1 = (List.getD b (b_i + Int.toNat i) (cod 2).d).2.2.1) &&         (decide             ((List.getD a (a_i + Int.toNat i) (cod 2).d).2.2.2.1 =               (List.getD b (b_i + Int.toNat i) (cod 2).d).2.2.2.1) &&           (decide               ((List.getD a (a_i + Int.toNat i) (cod 2).d).2.2.2.2.1 =                 (List.getD b (b_i + Int.toNat i) (cod 2).d).2.2.2.2.1) &&             decide               ((List.getD a (a_i + Int.toNat i) (cod 2).d).2.2.2.2.2 =                 (List.getD b (b_i + Int.toNat i) (cod 2).d).2.2.2.2.2))))))) (
  .ret (.fin (.c (.bool false)) [])) (
  .need (i64ok (i + 1)) (
  .ret (.cut (cutAt Try.f38 4) ⟨tmG 12 [(0, .c (.slc 0 (a_i) (a_n) a_t)), (0, .c (.slc 1 (b_i) (b_n) b_t)), (10, .c (.int .i64 (Int.ofNat a_n))), (0, .c (.int .i64 (i + 1)))], [.inp 2 a, .inp 2 b]⟩)))))))) (
 .ret (.fin (.c (.bool true)) [])) := by kernel_rfl



theorem same_l4 (a : List F.Sp) (a_t : Bool) (a_i a_n : Nat) (b : List F.Sp) (b_t : Bool) (b_i : Nat) (h0 : a_i + a_n ≤ a.length) (h1 : b_i + a_n ≤ b.length) (h2 : a_n ≤ 100000) (b0 : Base) (hb : b0.n = 2) :
    ∀ (q : Nat) (i : Int), 0 ≤ i → i + q = a_n → F.smN a b a_i b_i a_n 0 = F.smN a b a_i b_i q i.toNat →
    Sym.Runs Try.prog b0 (cutAt Try.f38 4) (st_same_4 a a_t a_i a_n b b_t b_i a_n i) (Sym.Ends Try.prog Try.f38 2 (.c (.bool (F.smN a b a_i b_i a_n 0))) []) := by
  intro q
  induction q with
  | zero =>
    intro i g0 g1 g2
    rw [g2, F.smN]
    refine Runs.go (cfg := C_insB) L_insB_ok mixed cuts_same 400 hb (same_t4 a a_t a_i a_n b b_t b_i a_n i) ?_
    simp only [T.wp, T.wp_cond, Aft, decide_eq_true_eq]
    exact ite_no (by simp only [Int.ofNat_eq_natCast]; omega) (by simp)
  | succ q ih =>
    intro i g0 g1 g2
    have hk : (i + 1).toNat = i.toNat + 1 := by omega
    refine Runs.go (cfg := C_insB) L_insB_ok mixed cuts_same 400 hb (same_t4 a a_t a_i a_n b b_t b_i a_n i) ?_
    simp only [T.wp, T.wp_cond, Aft, decide_eq_true_eq]
    have n1 : (0 : Int) ≤ i ∧ i < Int.ofNat a_n := by simp only [Int.ofNat_eq_natCast]; omega
    refine ite_yes n1.2 ⟨n1, by omega, n1, by omega, ?_⟩
    rw [F.smN.eq_2] at g2
    by_cases c : a.getD (a_i + i.toNat) F.sp0 = b.getD (b_i + i.toNat) F.sp0
    · rw [decide_eq_true c, Bool.true_and] at g2
      have nx := ih (i + 1) (by omega) (by omega) (by rw [hk]; exact g2)
      refine ite_no ?_ ⟨by unfold i64ok; omega, nx⟩
      change ¬ (!F.e6 (a.getD (a_i + i.toNat) F.sp0) (b.getD (b_i + i.toNat) F.sp0)) = true
      rw [eq6, decide_eq_true c]
      decide
    · rw [decide_eq_false c, Bool.false_and] at g2
      rw [g2]
      refine ite_yes ?_ ⟨rfl, trivial⟩
      change (!F.e6 (a.getD (a_i + i.toNat) F.sp0) (b.getD (b_i + i.toNat) F.sp0)) = true
      rw [eq6, decide_eq_false c]
      rfl
theorem same_run (a : List (Int × Int × Int × Int × Int × Int)) (a_t : Bool) (a_i a_n : Nat) (b : List (Int × Int × Int × Int × Int × Int)) (b_t : Bool) (b_i b_n : Nat) (b0 : Base) (hb : b0.n = 2) (h0 : a_i + a_n ≤ List.length a) (h1 : b_i + b_n ≤ List.length b) (h2 : a_n ≤ 100000) : Sym.Runs Try.prog b0 [.code (codeOf Try.f38)] ⟨argsS Try.f38 [.c (.slc 0 a_i a_n a_t), .c (.slc 1 b_i b_n b_t)], ([.inp 2 a, .inp 2 b] : Heap cod)⟩ (Sym.Ends Try.prog Try.f38 2 (.c (.bool (decide (a_n = b_n) && F.smN a b a_i b_i a_n 0))) []) := by
  refine Runs.go (cfg := C_insB) L_insB_ok mixed cuts_same 400 hb (same_t0 a a_t a_i a_n b b_t b_i b_n) ?_
  simp only [T.wp, T.wp_cond, Aft]
  by_cases c : a_n = b_n
  · subst c
    have e9 : (decide (a_n = a_n) && F.smN a b a_i b_i a_n 0) = F.smN a b a_i b_i a_n 0 := by rw [decide_eq_true rfl, Bool.true_and]
    rw [e9]
    exact ite_no (by simp) (same_l4 a a_t a_i a_n b b_t b_i h0 h1 h2 b0 hb a_n 0 (by omega) (by omega) rfl)
  · refine ite_yes (by
      have : ¬ (Int.ofNat a_n = Int.ofNat b_n) := by simp only [Int.ofNat_eq_natCast]; omega
      rw [decide_eq_false this]; rfl) ?_
    rw [decide_eq_false c]
    exact ⟨rfl, trivial⟩



noncomputable def s_same : Summ cod := fun args H => match args, H with
  | [.c (.slc 0 a_i a_n a_t), .c (.slc 1 b_i b_n b_t)], [o0, o1] => (match o0.asInp 2 with | some a => (match o1.asInp 2 with | some b => .need ((a_i + a_n ≤ List.length a) ∧ (b_i + b_n ≤ List.length b) ∧ (a_n ≤ 100000)) (.ret (.c (.bool (decide (a_n = b_n) && F.smN a b a_i b_i a_n 0)), [])) | none => .fail) | none => .fail)
  | _, _ => .fail


theorem same_sound : Sound Try.prog cod 38 s_same := sound_runs (cfg := C_insB) L_insB_ok mixed Try.func38 rfl rfl _ fun args H r news hg b0 hb => by
  unfold s_same at hg
  split at hg
  · skip
    split at hg
    · rename_i a hx0
      cases asInp_spec hx0
      split at hg
      · rename_i b hx1
        cases asInp_spec hx1
        simp only [T.gives, T.wp, Prod.mk.injEq] at hg
        obtain ⟨⟨q0, q1, q2⟩, rfl, rfl⟩ := hg
        exact same_run _ _ _ _ _ _ _ _ b0 hb (by assumption) (by assumption) (by assumption)
      · exact hg.elim
    · exact hg.elim
  · exact hg.elim

noncomputable def L_same : Sums cod := (38, .p s_same) :: L_insB
noncomputable def C_same : Cfg cod := mkC L_same

theorem L_same_ok : Snd Try.prog cod L_same := .cons same_sound L_insB_ok


end
end Go.Proofs.Ytbkpgpkeecnjpaa
