/- Part of a claim: lemmas on the way to its theorem; each states its own conditions. -/
import Derived.Test.YtbkpgpkeecnjpaaJb
namespace Go.Proofs.Ytbkpgpkeecnjpaa
open Sym Go.RowKit
noncomputable section
set_option maxRecDepth 100000
set_option maxHeartbeats 4000000


noncomputable def L_sortP : Sums cod := (59, .k s_sortP) :: L_cmpP
noncomputable def C_sortP : Cfg cod := mkC L_sortP

theorem L_sortP_ok : Snd Try.prog cod L_sortP := .consK sortP_sound L_cmpP_ok


noncomputable def L_cpt : Sums cod := (61, .i s_cpt) :: L_sortP
noncomputable def C_cpt : Cfg cod := mkC L_cpt

theorem L_cpt_ok : Snd Try.prog cod L_cpt := .consI cpt_sound L_sortP_ok



namespace F
def pl6 (x : Sp) : Int := plot x.1 x.2.1 x.2.2.1 x.2.2.2.1 x.2.2.2.2.1 x.2.2.2.2.2
def plE (l : List Sp) : Nat → Nat → Int
  | 0, _ => 0
  | q + 1, i => if pl6 (l.getD i sp0) ≠ 0 then pl6 (l.getD i sp0) else (if 0 < i ∧ (l.getD i sp0).2.1 < (l.getD (i - 1) sp0).2.1 then 12 else plE l q (i + 1))
def feE (l : List Sp) : Int := if 256 < l.length then 2 else plE l l.length 0
def mgF (f : List (List Sp)) : Nat → Nat → Int
  | 0, _ => 0
  | q + 1, j => if feE (f.getD j []) ≠ 0 then feE (f.getD j []) else mgF f q (j + 1)
def mgE (f : List (List Sp)) : Int := if 4 < f.length then 2 else mgF f f.length 0
def mgO (f : List (List Sp)) : List Sp := uniq (sortP f.flatten)
def mgRow (f : List (List Sp)) : List Sp := uqRow (sortP f.flatten)
end F




def cuts_merge : Cuts := [(5, [13, 14, 15, 4], 40), (10, [6, 22, 13, 14, 15, 4, 23, 24], 40)]

theorem merge_t0 (f : List (List (Int × Int × Int × Int × Int × Int))) (f_t : Bool) : symF C_cpt cuts_merge Try.f36.results.toList 1 400 [.code (codeOf Try.f36)] ⟨argsS Try.f36 [.c (.slc 0 0 (List.length f) f_t)], ([.nin 2 f none] : Heap cod)⟩ =
 cond (decide (4 < Int.ofNat (List.length f))) (
 .ret (.fin (.tup [.c (.own 1 0), .c (.int .i64 2)]) [.own 2 [] 53])) (
 .ret (.cut (cutAt Try.f36 5) ⟨tmG 40 [(4, .c (.own 2 0)), (8, .c (.slc 0 0 (List.length f) f_t)), (0, .c (.int .i64 (Int.ofNat (List.length f)))), (0, .c (.int .i64 0))], [.nin 2 (f) none, .own 2 [] 53, .own 2 [] 53]⟩)) := by kernel_rfl


noncomputable def st_merge_5 (f : List (List (Int × Int × Int × Int × Int × Int))) (f_t : Bool) (j : Int) (o : List (Int × Int × Int × Int × Int × Int)) (on : Nat) : St cod := ⟨tmG 40 [(4, .c (.own 1 on)), (8, .c (.slc 0 0 (List.length f) f_t)), (0, .c (.int .i64 (Int.ofNat (List.length f)))), (0, .c (.int .i64 j))], ([.nin 2 f none, .own 2 o 53] : Heap cod)⟩


theorem merge_t5 (f : List (List (Int × Int × Int × Int × Int × Int))) (f_t : Bool) (j : Int) (o : List (Int × Int × Int × Int × Int × Int)) (on : Nat) : symF C_cpt cuts_merge Try.f36.results.toList 1 400 (cutAt Try.f36 5) (st_merge_5 f f_t j o on) =
 cond (decide (j < Int.ofNat (List.length f))) (
 .need (((0 : Int) ≤ j ∧ j < Int.ofNat (List.length f))) (
 .fail)) (
 .need (List.length o ≤ 1000000) (
 .need ((on = List.length (F.sortP o) ∧ on ≤ 1000000)) (
 .ret (.fin (.tup [.c (.slc 1 0 (List.length (F.uniq (F.sortP o))) false), .c (.int .i64 0)]) [.own 2 (F.uqRow (F.sortP o)) 53])))) := by kernel_rfl


noncomputable def st_merge_5b (f : List (List (Int × Int × Int × Int × Int × Int))) (f_t : Bool) (j : Int) (o : List (Int × Int × Int × Int × Int × Int)) (on : Nat) (l : List (Int × Int × Int × Int × Int × Int)) (m : Nat) (jn : Nat) : St cod := ⟨tmG 40 [(4, .c (.own 1 on)), (8, .c (.slc 0 0 (List.length f) f_t)), (0, .c (.int .i64 (Int.ofNat (List.length f)))), (0, .c (.int .i64 j))], ([.nin 2 f (some (jn, .slc 2 0 m false)), .own 2 o 53, .inp 2 l] : Heap cod)⟩


theorem merge_t5b (f : List (List (Int × Int × Int × Int × Int × Int))) (f_t : Bool) (j : Int) (o : List (Int × Int × Int × Int × Int × Int)) (on : Nat) (l : List (Int × Int × Int × Int × Int × Int)) (m : Nat) (jn : Nat) : symF C_cpt cuts_merge Try.f36.results.toList 1 400 (cutAt Try.f36 5) (st_merge_5b f f_t j o on l m jn) =
 cond (decide (j < Int.ofNat (List.length f))) (
 .need (((0 : Int) ≤ j ∧ j < Int.ofNat (List.length f))) (
 .need ((0 + Int.toNat j = jn ∧ jn < List.length f)) (
 cond (decide (256 < Int.ofNat m)) (
  .ret (.fin (.tup [.c (.own 1 0), .c (.int .i64 2)]) [.own 2 [] 53])) (
  .ret (.cut (cutAt Try.f36 10) ⟨tmG 31 [(4, .c (.own 1 (on))), (1, .c (.slc 2 0 (m) false)), (6, .c (.slc 0 0 (List.length f) f_t)), (0, .c (.int .i64 (Int.ofNat (List.length f)))), (0, .c (.int .i64 j)), (6, .c (.slc 2 0 (m) false)), (0, .c (.int .i64 (Int.ofNat m))), (0, .c (.int .i64 0))], [.nin 2 (f) (some ((jn), .slc 2 0 (m) false)), .own 2 o 53, .inp 2 l]⟩))))) (
 .need (List.length o ≤ 1000000) (
 .need ((on = List.length (F.sortP o) ∧ on ≤ 1000000)) (
 .ret (.fin (.tup [.c (.slc 1 0 (List.length (F.uniq (F.sortP o))) false), .c (.int .i64 0)]) [.own 2 (F.uqRow (F.sortP o)) 53])))) := by kernel_rfl


noncomputable def st_merge_10 (f : List (List (Int × Int × Int × Int × Int × Int))) (f_t : Bool) (j : Int) (o : List (Int × Int × Int × Int × Int × Int)) (on : Nat) (l : List (Int × Int × Int × Int × Int × Int)) (m : Nat) (jn : Nat) (i : Int) : St cod := ⟨tmG 31 [(4, .c (.own 1 (on))), (1, .c (.slc 2 0 (m) false)), (6, .c (.slc 0 0 (List.length f) f_t)), (0, .c (.int .i64 (Int.ofNat (List.length f)))), (0, .c (.int .i64 j)), (6, .c (.slc 2 0 (m) false)), (0, .c (.int .i64 (Int.ofNat m))), (0, .c (.int .i64 i))], [.nin 2 (f) (some ((jn), .slc 2 0 (m) false)), .own 2 o 53, .inp 2 l]⟩


theorem merge_t10 (f : List (List (Int × Int × Int × Int × Int × Int))) (f_t : Bool) (j : Int) (o : List (Int × Int × Int × Int × Int × Int)) (on : Nat) (l : List (Int × Int × Int × Int × Int × Int)) (m : Nat) (jn : Nat) (i : Int) : symF C_cpt cuts_merge Try.f36.results.toList 1 400 (cutAt Try.f36 10) (st_merge_10 f f_t j o on l m jn i) =
 cond (decide (i < Int.ofNat m)) (
 .need (((0 : Int) ≤ i ∧ i < Int.ofNat m)) (
 .need (0 + Int.toNat i < List.length l) (
 cond (!decide     (F.plot (List.getD l (0 + Int.toNat i) (cod 2).d).1 (List.getD l (0 + Int.toNat i) (cod 2).d).2.1         (List.getD l (0 + Int.toNat i) (cod 2).d).2.2.1 (List.getD l (0 + Int.toNat i) (cod 2).d).2.2.2.1         (List.getD l (0 + Int.toNat i) (cod 2).d).2.2.2.2.1 (List.getD l (0 + Int.toNat i) (cod 2).d).2.2.2.2.2 =       0)) (
  .ret (.fin (.tup [.c (.own 1 0), .c (.int .i64 (F.plot (List.getD l (0 + Int.toNat i) (cod 2).d).1 (List.getD l (0 + Int.toNat i) (cod 2).d).2.1   (List.getD l (0 + Int.toNat i) (cod 2).d).2.2.1 (List.getD l (0 + Int.toNat i) (cod 2).d).2.2.2.1   (List.getD l (0 + Int.toNat i) (cod 2).d).2.2.2.2.1 (List.getD l (0 + Int.toNat i) (cod 2).d).2.2.2.2.2))]) [.own 2 [] 53])) (
  cond (decide (0 < i)) (
   .need (i64ok (i - 1)) (
   .need (((0 : Int) ≤ i - 1 ∧ i - 1 < Int.ofNat m)) (
   .need (0 + Int.toNat (i - 1) < List.length l) (
   cond (decide ((List.getD l (0 + Int.toNat i) (cod 2).d).2.1 < (List.getD l (0 + Int.toNat (i - 1)) (cod 2).d).2.1)) (
    .ret (.fin (.tup [.c (.own 1 0), .c (.int .i64 12)]) [.own 2 [] 53])) (
    .need (i64ok (i + 1)) (
    .ret (.cut (cutAt Try.f36 10) ⟨tmG 31 [(4, .c (.own 1 (on))), (1, .c (.slc 2 0 (m) false)), (6, .c (.slc 0 0 (List.length f) f_t)), (0, .c (.int .i64 (Int.ofNat (List.length f)))), (0, .c (.int .i64 j)), (6, .c (.slc 2 0 (m) false)), (0, .c (.int .i64 (Int.ofNat m))), (0, .c (.int .i64 (i + 1)))], [.nin 2 (f) (some ((jn), .slc 2 0 (m) false)), .own 2 o 53, .inp 2 l, .blk [.int .i64 ((List.getD l (0 + Int.toNat i) (cod 2).d).1), .int .i64 ((List.getD l (0 + Int.toNat i) (cod 2).d).2.1), .int .i64 ((List.getD l (0 + Int.toNat i) (cod 2).d).2.2.1), .int .i64 ((List.getD l (0 + Int.toNat i) (cod 2).d).2.2.2.1), .int .i64 ((List.getD l (0 + Int.toNat i) (cod 2).d).2.2.2.2.1), .int .i64 ((List.getD l (0 + Int.toNat i) (cod 2).d).2.2.2.2.2)] 53]⟩))))))) (
   .need (i64ok (i + 1)) (
   .ret (.cut (cutAt Try.f36 10) ⟨tmG 31 [(4, .c (.own 1 (on))), (1, .c (.slc 2 0 (m) false)), (6, .c (.slc 0 0 (List.length f) f_t)), (0, .c (.int .i64 (Int.ofNat (List.length f)))), (0, .c (.int .i64 j)), (6, .c (.slc 2 0 (m) false)), (0, .c (.int .i64 (Int.ofNat m))), (0, .c (.int .i64 (i + 1)))], [.nin 2 (f) (some ((jn), .slc 2 0 (m) false)), .own 2 o 53, .inp 2 l, .blk [.int .i64 ((List.getD l (0 + Int.toNat i) (cod 2).d).1), .int .i64 ((List.getD l (0 + Int.toNat i) (cod 2).d).2.1), .int .i64 ((List.getD l (0 + Int.toNat i) (cod 2).d).2.2.1), .int .i64 ((List.getD l (0 + Int.toNat i) (cod 2).d).2.2.2.1), .int .i64 ((List.getD l (0 + Int.toNat i) (cod 2).d).2.2.2.2.1), .int .i64 ((List.getD l (0 + Int.toNat i) (cod 2).d).2.2.2.2.2)] 53]⟩))))))) (
 .need (List.length (List.take m (List.drop 0 l)) = m) (
 .need (on + List.length (List.take m (List.drop 0 l)) ≤ 1000000) (
 .need (i64ok (j + 1)) (
 .ret (.cut (cutAt Try.f36 5) ⟨tmG 40 [(4, .c (.own 1 (on + List.length (List.take m (List.drop 0 l))))), (8, .c (.slc 0 0 (List.length f) f_t)), (0, .c (.int .i64 (Int.ofNat (List.length f)))), (0, .c (.int .i64 (j + 1)))], [.nin 2 (f) (some ((jn), .slc 2 0 (m) false)), .own 2 (o ++ (List.take m (List.drop 0 l))) 53, .inp 2 l]⟩))))) := by kernel_rfl



theorem mg10 (f : List (List F.Sp)) (f_t : Bool) (b0 : Base) (hb : b0.n = 1) (R : SV) (N : Heap cod) (j : Int) (hj : 0 ≤ j ∧ j ≤ 4) (o : List F.Sp) (on : Nat) (l : List F.Sp) (m jn : Nat) (hm : m = l.length) (h256 : m ≤ 256) (hon : on ≤ 1024)
    (nx : F.plE l l.length 0 = 0 → Sym.Runs Try.prog b0 (cutAt Try.f36 5) (st_merge_5 f f_t (j + 1) (o ++ l) (on + m)) (Sym.Ends Try.prog Try.f36 1 R N)) (bad : F.plE l l.length 0 ≠ 0 → .tup [.c (.own 1 0), .c (.int .i64 (F.plE l l.length 0))] = R ∧ [.own 2 [] 53] = N) :
    ∀ (q : Nat) (i : Int), 0 ≤ i → i + q = m → F.plE l l.length 0 = F.plE l q i.toNat →
    Sym.Runs Try.prog b0 (cutAt Try.f36 10) (st_merge_10 f f_t j o on l m jn i) (Sym.Ends Try.prog Try.f36 1 R N) := by
  intro q
  induction q with
  | zero =>
    intro i h0 hi hE
    rw [F.plE] at hE
    have ht : List.take m l = l := List.take_of_length_le (by omega)
    refine Runs.go (cfg := C_cpt) L_cpt_ok mixed cuts_merge 400 hb (merge_t10 f f_t j o on l m jn i) ?_
    simp only [T.wp, T.wp_cond, Aft, decide_eq_true_eq, List.drop_zero]
    rw [ht, ← hm]
    exact ite_no (by simp only [Int.ofNat_eq_natCast]; omega) ⟨rfl, by omega, by unfold i64ok; omega, Runs.close 0 rfl (Runs.turn [0, 1] 15 hb (by decide) rfl rfl rfl (nx hE))⟩
  | succ q ih =>
    intro i h0 hi hE
    have i1 : (i - 1).toNat = i.toNat - 1 := by omega
    have hk : (i + 1).toNat = i.toNat + 1 := by omega
    have i64 : i64ok (i + 1) := by unfold i64ok; omega
    rw [F.plE] at hE
    refine Runs.go (cfg := C_cpt) L_cpt_ok mixed cuts_merge 400 hb (merge_t10 f f_t j o on l m jn i) ?_
    simp only [T.wp, T.wp_cond, Aft, decide_eq_true_eq, Nat.zero_add]
    refine ite_yes (by simp only [Int.ofNat_eq_natCast]; omega) ⟨by simp only [Int.ofNat_eq_natCast]; omega, by omega, ?_⟩
    by_cases hv : F.pl6 (l.getD i.toNat F.sp0) = 0
    · rw [if_neg (by rw [hv]; decide)] at hE
      refine ite_no (by
        change ¬ (!decide (F.pl6 (l.getD i.toNat F.sp0) = 0)) = true
        rw [hv]; decide) ?_
      by_cases c1 : 0 < i
      · refine ite_yes c1 ⟨by unfold i64ok; omega, by simp only [Int.ofNat_eq_natCast]; omega, by omega, ?_⟩
        by_cases c2 : (l.getD i.toNat F.sp0).2.1 < (l.getD (i - 1).toNat F.sp0).2.1
        · rw [if_pos ⟨by omega, by rw [← i1]; exact c2⟩] at hE
          refine ite_yes c2 ?_
          have := bad (by rw [hE]; decide)
          rw [hE] at this
          exact this
        · rw [if_neg (fun h => c2 (by rw [i1]; exact h.2))] at hE
          have nx1 := ih (i + 1) (by omega) (by omega) (by rw [hk]; exact hE)
          exact ite_no c2 ⟨i64, Runs.turn [0, 1, 2] 24 hb (by decide) rfl rfl rfl nx1⟩
      · rw [if_neg (fun h => c1 (by omega))] at hE
        have nx1 := ih (i + 1) (by omega) (by omega) (by rw [hk]; exact hE)
        exact ite_no c1 ⟨i64, Runs.turn [0, 1, 2] 24 hb (by decide) rfl rfl rfl nx1⟩
    · rw [if_pos hv] at hE
      refine ite_yes (by
        change (!decide (F.pl6 (l.getD i.toNat F.sp0) = 0)) = true
        rw [decide_eq_false hv]; rfl) ?_
      have := bad (by rw [hE]; exact hv)
      rw [hE] at this
      exact this
theorem mg5 (f : List (List F.Sp)) (f_t : Bool) (b0 : Base) (hb : b0.n = 1) (h4 : f.length ≤ 4) (R : SV) (N : Heap cod)
    (hY : F.mgE f = 0 → .tup [.c (.slc 1 0 (List.length (F.mgO f)) false), .c (.int .i64 0)] = R ∧ [.own 2 (F.mgRow f) 53] = N) (hN : F.mgE f ≠ 0 → .tup [.c (.own 1 0), .c (.int .i64 (F.mgE f))] = R ∧ [.own 2 [] 53] = N) :
    ∀ (q : Nat) (j : Int) (o : List F.Sp) (on : Nat), 0 ≤ j → j + q = f.length → on = o.length → o ++ (f.drop j.toNat).flatten = f.flatten → on ≤ 256 * j.toNat → F.mgE f = F.mgF f q j.toNat →
    Sym.Runs Try.prog b0 (cutAt Try.f36 5) (st_merge_5 f f_t j o on) (Sym.Ends Try.prog Try.f36 1 R N) := by
  intro q
  induction q with
  | zero =>
    intro j o on h0 hj hon ho hb1 hE
    rw [F.mgF] at hE
    rw [List.drop_eq_nil_of_le (by omega), List.flatten_nil, List.append_nil] at ho
    refine Runs.go (cfg := C_cpt) L_cpt_ok mixed cuts_merge 400 hb (merge_t5 f f_t j o on) ?_
    simp only [T.wp, T.wp_cond, Aft, decide_eq_true_eq]
    have hl := sortP_len o
    have := hY hE
    unfold F.mgO F.mgRow at this
    rw [← ho] at this
    exact ite_no (by simp only [Int.ofNat_eq_natCast]; omega) ⟨by omega, ⟨by omega, by omega⟩, this⟩
  | succ q ih =>
    intro j o on h0 hj hon ho hb1 hE
    have j2 : j.toNat < f.length := by omega
    have hk : (j + 1).toNat = j.toNat + 1 := by omega
    have hd : f.drop j.toNat = f.getD j.toNat [] :: f.drop (j.toNat + 1) := by
      rw [List.drop_eq_getElem_cons j2, List.getD, List.getElem?_eq_getElem j2]
      rfl
    rw [hd, List.flatten_cons] at ho
    rw [F.mgF] at hE
    refine Runs.open 0 j.toNat rfl j2 rfl ?_
    have main : Sym.Runs Try.prog b0 (cutAt Try.f36 5) (st_merge_5b f f_t j o on (f.getD j.toNat []) (f.getD j.toNat []).length j.toNat) (Sym.Ends Try.prog Try.f36 1 R N) := by
      generalize f.getD j.toNat [] = l at *
      refine Runs.go (cfg := C_cpt) L_cpt_ok mixed cuts_merge 400 hb (merge_t5b f f_t j o on l l.length j.toNat) ?_
      simp only [T.wp, T.wp_cond, Aft, decide_eq_true_eq, Nat.zero_add]
      refine ite_yes (by simp only [Int.ofNat_eq_natCast]; omega) ⟨by simp only [Int.ofNat_eq_natCast]; omega, ⟨trivial, j2⟩, ?_⟩
      by_cases c : 256 < l.length
      · have hf : F.feE l = 2 := by unfold F.feE; rw [if_pos c]
        rw [hf, if_pos (by decide)] at hE
        refine ite_yes (by simp only [Int.ofNat_eq_natCast]; omega) ?_
        have := hN (by rw [hE]; decide)
        rw [hE] at this
        exact this
      · have hf : F.feE l = F.plE l l.length 0 := by unfold F.feE; rw [if_neg c]
        rw [hf] at hE
        refine ite_no (by simp only [Int.ofNat_eq_natCast]; omega) ?_
        have nx := mg10 f f_t b0 hb R N j (by omega) o on l l.length j.toNat rfl (by omega) (by omega) (fun hz => ?_) (fun hz => ?_) l.length 0 (by omega) (by omega) rfl
        · exact nx
        · rw [if_neg (by rw [hz]; decide)] at hE
          exact ih (j + 1) (o ++ l) (on + l.length) (by omega) (by omega) (by rw [List.length_append, hon]) (by rw [hk, List.append_assoc]; exact ho) (by omega) (by rw [hk]; exact hE)
        · rw [if_pos hz] at hE
          have := hN (by rw [hE]; exact hz)
          rw [hE] at this
          exact this
    exact main
theorem merge_gen (f : List (List F.Sp)) (f_t : Bool) (b0 : Base) (hb : b0.n = 1) (R : SV) (N : Heap cod)
    (hY : F.mgE f = 0 → .tup [.c (.slc 1 0 (List.length (F.mgO f)) false), .c (.int .i64 0)] = R ∧ [.own 2 (F.mgRow f) 53] = N) (hN : F.mgE f ≠ 0 → .tup [.c (.own 1 0), .c (.int .i64 (F.mgE f))] = R ∧ [.own 2 [] 53] = N) :
    Sym.Runs Try.prog b0 [.code (codeOf Try.f36)] ⟨argsS Try.f36 [.c (.slc 0 0 (List.length f) f_t)], ([.nin 2 f none] : Heap cod)⟩ (Sym.Ends Try.prog Try.f36 1 R N) := by
  refine Runs.go (cfg := C_cpt) L_cpt_ok mixed cuts_merge 400 hb (merge_t0 f f_t) ?_
  simp only [T.wp, T.wp_cond, Aft, decide_eq_true_eq]
  by_cases c : 4 < f.length
  · have hE : F.mgE f = 2 := by unfold F.mgE; rw [if_pos c]
    refine ite_yes (by simp only [Int.ofNat_eq_natCast]; omega) ?_
    have := hN (by rw [hE]; decide)
    rw [hE] at this
    exact this
  · have hE : F.mgE f = F.mgF f f.length 0 := by unfold F.mgE; rw [if_neg c]
    refine ite_no (by simp only [Int.ofNat_eq_natCast]; omega) ?_
    exact Runs.turn [0, 2] 15 hb (by decide) rfl rfl rfl (mg5 f f_t b0 hb (by omega) R N hY hN f.length 0 [] 0 (by omega) (by omega) rfl rfl (by omega) hE)
theorem merge_run (f : List (List (Int × Int × Int × Int × Int × Int))) (f_t : Bool) (b0 : Base) (hb : b0.n = 1) (h0 : F.mgE f = 0) : Sym.Runs Try.prog b0 [.code (codeOf Try.f36)] ⟨argsS Try.f36 [.c (.slc 0 0 (List.length f) f_t)], ([.nin 2 f none] : Heap cod)⟩ (Sym.Ends Try.prog Try.f36 1 (.tup [.c (.slc 1 0 (List.length (F.mgO f)) false), .c (.int .i64 0)]) [.own 2 (F.mgRow f) 53]) := by
  exact merge_gen f f_t b0 hb _ _ (fun _ => ⟨rfl, rfl⟩) (fun h => absurd h0 h)



noncomputable def s_merge : Summ cod := fun args H => match args, H with
  | [.c (.slc 0 f_i f_n f_t)], [o0] => (match o0.asNin 2 with | some f => .need ((f_i = 0 ∧ f_n = List.length f) ∧ (F.mgE f = 0)) (.ret (.tup [.c (.slc 1 0 (List.length (F.mgO f)) false), .c (.int .i64 0)], [.own 2 (F.mgRow f) 53])) | none => .fail)
  | _, _ => .fail


theorem merge_sound : Sound Try.prog cod 36 s_merge := sound_runs (cfg := C_cpt) L_cpt_ok mixed Try.func36 rfl rfl _ fun args H r news hg b0 hb => by
  unfold s_merge at hg
  split at hg
  · skip
    split at hg
    · rename_i f hx0
      cases asNin_spec hx0
      simp only [T.gives, T.wp, Prod.mk.injEq] at hg
      obtain ⟨⟨⟨rfl, rfl⟩, q1⟩, rfl, rfl⟩ := hg
      exact merge_run _ _ b0 hb (by assumption)
    · exact hg.elim
  · exact hg.elim

noncomputable def L_merge : Sums cod := (36, .p s_merge) :: L_cpt
noncomputable def C_merge : Cfg cod := mkC L_merge

theorem L_merge_ok : Snd Try.prog cod L_merge := .cons merge_sound L_cpt_ok



noncomputable def s_mergeB : Summ cod := fun args H => match args, H with
  | [.c (.slc 0 li ln lt)], [o0] => (match o0.asNin 2 with
    | some f => .need (li = 0 ∧ ln = List.length f)
          (.ite (decide (F.mgE f = 0)) (.ret (.tup [.c (.slc 1 0 (List.length (F.mgO f)) false), .c (.int .i64 0)], [.own 2 (F.mgRow f) 53])) (.ret (.tup [.c (.own 1 0), .c (.int .i64 (F.mgE f))], [.own 2 [] 53])))
    | none => .fail)
  | _, _ => .fail


theorem mergeB_sound : Sound Try.prog cod 36 s_mergeB := sound_runs (cfg := C_merge) L_merge_ok mixed Try.func36 rfl rfl _ fun args H r news hg b0 hb => by
  unfold s_mergeB at hg
  split at hg
  · skip
    split at hg
    · rename_i f hx0
      cases asNin_spec hx0
      simp only [T.gives, T.wp, Prod.mk.injEq, decide_eq_true_eq] at hg
      obtain ⟨⟨rfl, rfl⟩, g1, g2⟩ := hg
      exact merge_gen f _ b0 hb r news g1 (fun h => g2 (decide_eq_false h))
    · exact hg.elim
  · exact hg.elim

end
end Go.Proofs.Ytbkpgpkeecnjpaa
