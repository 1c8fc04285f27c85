/- Part of a claim: lemmas on the way to its theorem; each states its own conditions. -/
import Derived.Test.YtiolfkmkbccndaaGreatDoorBd47
namespace Go.Proofs.YtiolfkmkbccndaaGreatDoor
open Sym Go.RowKit
noncomputable section
set_option maxRecDepth 100000
set_option maxHeartbeats 4000000



noncomputable def s_gpri : Summ cod := s_pri


theorem gpri_sound : SoundI Tryz.prog cod 7 s_gpri := pri_sound

noncomputable def L_gpri : Sums cod := (7, .i s_gpri) :: L_drec
noncomputable def C_gpri : Cfg cod := mkC L_gpri

theorem L_gpri_ok : Snd Tryz.prog cod L_gpri := .consI gpri_sound L_drec_ok



def cuts_stat : Cuts := [(100003, [5, 0, 6], 30), (6, [20, 21, 22, 5], 8)]
def cuts_stat_r3 : Cuts := [(6, [20, 21, 22, 5], 8)]
def cuts_stat_r3a : Cuts := [(6, [20, 21, 22, 5], 8)]
def cuts_stat_r3b : Cuts := [(6, [20, 21, 22, 5], 8)]

theorem stat_t0 (P S : List (List UInt8)) (W : List (Int × Int × Bool × List UInt8)) (t d a : Int) (n : Int) : symI C_gpri cuts_stat Tryz.f6.results.toList ([.blk [.ptr 1 0 0] 23, .blk [.own 2 (List.length P), .own 3 (List.length S), .own 4 (List.length W), .int .i64 t, .int .i64 d, .int .i64 a] 50, .own 2 P 9, .own 2 S 9, .own 6 W 61] : Heap cod) 400 [.code (codeOf Tryz.f6)] ⟨argsS Tryz.f6 [.c (.int .i64 n), .c (.ptr 0 0 0)], ([.blk [.ptr 1 0 0] 23, .blk [.own 2 (List.length P), .own 3 (List.length S), .own 4 (List.length W), .int .i64 t, .int .i64 d, .int .i64 a] 50, .own 2 P 9, .own 2 S 9, .own 6 W 61] : Heap cod)⟩ =
.ite (decide (List.length P = 0)) (
 .need ((HObj.blk (cod := cod) [Cell.own 1 (List.length P), Cell.own 2 (List.length S), Cell.own 3 (List.length W), Cell.int IntKind.i64 t,       Cell.int IntKind.i64 d, Cell.int IntKind.i64 a] 50 : HObj cod) =   HObj.blk     [Cell.own 1 (List.length P), Cell.own 2 (List.length S), Cell.own 3 (List.length W), Cell.int IntKind.i64 t,       Cell.int IntKind.i64 d, Cell.int IntKind.i64 a]     50) (
 .need (P = []) (
 .ret (.cut (regAt Tryz.f6 3) ⟨tmG 37 [(0, .c (.int .i64 n)), (4, .c (.own 6 0)), (0, .c (.slc 2 0 0 true))], [.blk [.ptr 1 0 0] 23, .blk [.own 2 (List.length P), .own 3 (List.length S), .own 4 (List.length W), .int .i64 t, .int .i64 d, .int .i64 a] 50, .own 2 P 9, .own 2 S 9, .own 6 W 61, .own 1 [] 56, .own 5 [] 31]⟩)))) (
 .need ((HObj.blk (cod := cod) [Cell.own 1 (List.length P), Cell.own 2 (List.length S), Cell.own 3 (List.length W), Cell.int IntKind.i64 t,       Cell.int IntKind.i64 d, Cell.int IntKind.i64 a] 50 : HObj cod) =   HObj.blk     [Cell.own 1 (List.length P), Cell.own 2 (List.length S), Cell.own 3 (List.length W), Cell.int IntKind.i64 t,       Cell.int IntKind.i64 d, Cell.int IntKind.i64 a]     50) (
 .need (((0 : Nat) < List.length P ∧ List.length P ≤ 64)) (
 .ret (.cut (regAt Tryz.f6 3) ⟨tmG 37 [(0, .c (.int .i64 n)), (4, .c (.own 6 0)), (0, .c (.own 7 (List.length P)))], [.blk [.ptr 1 0 0] 23, .blk [.own 2 (List.length P), .own 3 (List.length S), .own 4 (List.length W), .int .i64 t, .int .i64 d, .int .i64 a] 50, .own 2 P 9, .own 2 S 9, .own 6 W 61, .own 1 [] 56, .own 5 [] 31, .own 2 P 9]⟩)))) := by kernel_rfl


noncomputable def st_stat_r3 (P S : List (List UInt8)) (W : List (Int × Int × Bool × List UInt8)) (t d a : Int) (n : Int)  : St cod := ⟨tmG 37 [(0, .c (.int .i64 n)), (4, .c (.own 6 0)), (0, .c (.slc 2 0 0 true))], [.blk [.ptr 1 0 0] 23, .blk [.own 2 (List.length P), .own 3 (List.length S), .own 4 (List.length W), .int .i64 t, .int .i64 d, .int .i64 a] 50, .own 2 P 9, .own 2 S 9, .own 6 W 61, .own 1 [] 56, .own 5 [] 31]⟩


noncomputable def st_stat_r3a (P S : List (List UInt8)) (W : List (Int × Int × Bool × List UInt8)) (t d a : Int) (n : Int)  : St cod := ⟨tmG 37 [(0, .c (.int .i64 n)), (4, .c (.own 6 0)), (0, .c (.slc 2 0 0 true))], ([.blk [.ptr 1 0 0] 23, .blk [.own 2 (List.length P), .own 3 (List.length S), .own 4 (List.length W), .int .i64 t, .int .i64 d, .int .i64 a] 50, .own 2 P 9, .own 2 S 9, .own 6 W 61, .own 1 [] 56, .own 5 [] 31] : Heap cod)⟩


theorem stat_tr3a (P S : List (List UInt8)) (W : List (Int × Int × Bool × List UInt8)) (t d a : Int) (n : Int)  : symI C_gpri cuts_stat_r3a Tryz.f6.results.toList ([.blk [.ptr 1 0 0] 23, .blk [.own 2 (List.length P), .own 3 (List.length S), .own 4 (List.length W), .int .i64 t, .int .i64 d, .int .i64 a] 50, .own 2 P 9, .own 2 S 9, .own 6 W 61] : Heap cod) 400 (regAt Tryz.f6 3) (st_stat_r3a P S W t d a n ) =
 cond (decide (Int.ofNat 0 < n)) (
 .ret (.fin (.tup [.c (.own 5 0), .c (.bool false)]) [.blk [.ptr 1 0 0] 23, .blk [.own 2 (List.length P), .own 3 (List.length S), .own 4 (List.length W), .int .i64 t, .int .i64 d, .int .i64 a] 50, .own 2 P 9, .own 2 S 9, .own 6 W 61, .own 1 [] 56])) (
 .need (((0 : Int) ≤ n ∧ n ≤ Int.ofNat 0)) (
 .ret (.cut (cutAt Tryz.f6 6) ⟨tmG 21 [(5, .c (.own 6 0)), (14, .c (.slc 2 0 (Int.toNat n) false)), (0, .c (.int .i64 (Int.ofNat (Int.toNat n)))), (0, .c (.int .i64 0))], [.blk [.ptr 1 0 0] 23, .blk [.own 2 (List.length P), .own 3 (List.length S), .own 4 (List.length W), .int .i64 t, .int .i64 d, .int .i64 a] 50, .own 2 P 9, .own 2 S 9, .own 6 W 61, .own 1 [] 56, .own 5 [] 31]⟩))) := by kernel_rfl


noncomputable def st_stat_r3b (P S : List (List UInt8)) (W : List (Int × Int × Bool × List UInt8)) (t d a : Int) (n : Int) (Q : List (List UInt8)) : St cod := ⟨tmG 37 [(0, .c (.int .i64 n)), (4, .c (.own 6 0)), (0, .c (.slc 7 0 (List.length Q) false))], ([.blk [.ptr 1 0 0] 23, .blk [.own 2 (List.length P), .own 3 (List.length S), .own 4 (List.length W), .int .i64 t, .int .i64 d, .int .i64 a] 50, .own 2 P 9, .own 2 S 9, .own 6 W 61, .own 1 [] 56, .own 5 [] 31, .inp 2 Q] : Heap cod)⟩


theorem stat_tr3b (P S : List (List UInt8)) (W : List (Int × Int × Bool × List UInt8)) (t d a : Int) (n : Int) (Q : List (List UInt8)) : symI C_gpri cuts_stat_r3b Tryz.f6.results.toList ([.blk [.ptr 1 0 0] 23, .blk [.own 2 (List.length P), .own 3 (List.length S), .own 4 (List.length W), .int .i64 t, .int .i64 d, .int .i64 a] 50, .own 2 P 9, .own 2 S 9, .own 6 W 61] : Heap cod) 400 (regAt Tryz.f6 3) (st_stat_r3b P S W t d a n Q) =
 cond (decide (Int.ofNat (List.length Q) < n)) (
 .ret (.fin (.tup [.c (.own 5 0), .c (.bool false)]) [.blk [.ptr 1 0 0] 23, .blk [.own 2 (List.length P), .own 3 (List.length S), .own 4 (List.length W), .int .i64 t, .int .i64 d, .int .i64 a] 50, .own 2 P 9, .own 2 S 9, .own 6 W 61, .own 1 [] 56])) (
 .need (((0 : Int) ≤ n ∧ n ≤ Int.ofNat (List.length Q))) (
 .ret (.cut (cutAt Tryz.f6 6) ⟨tmG 21 [(5, .c (.own 6 0)), (14, .c (.slc 7 0 (Int.toNat n) false)), (0, .c (.int .i64 (Int.ofNat (Int.toNat n)))), (0, .c (.int .i64 0))], [.blk [.ptr 1 0 0] 23, .blk [.own 2 (List.length P), .own 3 (List.length S), .own 4 (List.length W), .int .i64 t, .int .i64 d, .int .i64 a] 50, .own 2 P 9, .own 2 S 9, .own 6 W 61, .own 1 [] 56, .own 5 [] 31, .inp 2 Q]⟩))) := by kernel_rfl


noncomputable def st_stat_6a (P S : List (List UInt8)) (W : List (Int × Int × Bool × List UInt8)) (t d a : Int) (n : Int)  : St cod := ⟨tmG 21 [(5, .c (.own 6 0)), (14, .c (.slc 2 0 0 false)), (0, .c (.int .i64 0)), (0, .c (.int .i64 0))], ([.blk [.ptr 1 0 0] 23, .blk [.own 2 (List.length P), .own 3 (List.length S), .own 4 (List.length W), .int .i64 t, .int .i64 d, .int .i64 a] 50, .own 2 P 9, .own 2 S 9, .own 6 W 61, .own 1 [] 56, .own 5 [] 31] : Heap cod)⟩


theorem stat_t6a (P S : List (List UInt8)) (W : List (Int × Int × Bool × List UInt8)) (t d a : Int) (n : Int)  : symI C_gpri cuts_stat Tryz.f6.results.toList ([.blk [.ptr 1 0 0] 23, .blk [.own 2 (List.length P), .own 3 (List.length S), .own 4 (List.length W), .int .i64 t, .int .i64 d, .int .i64 a] 50, .own 2 P 9, .own 2 S 9, .own 6 W 61] : Heap cod) 400 (cutAt Tryz.f6 6) (st_stat_6a P S W t d a n ) =
.need (((0 = 0 ∧ 0 = 0) ∧ (([] : List (cod 5).α) = F.ents 1 (F.txs []) ∧ F.okTs (F.txs [])))) (
.ret (.fin (.tup [.c (.own 5 0), .c (.bool (decide (0 = 0)))]) [.blk [.ptr 1 0 0] 23, .blk [.own 2 (List.length P), .own 3 (List.length S), .own 4 (List.length W), .int .i64 t, .int .i64 d, .int .i64 a] 50, .own 2 P 9, .own 2 S 9, .own 6 W 61, .own 1 (F.runT [] (F.txs [])) 56])) := by kernel_rfl


noncomputable def st_stat_6 (P S : List (List UInt8)) (W : List (Int × Int × Bool × List UInt8)) (t d a : Int) (n : Int) (Q : List (List UInt8)) (m k : Nat) (es : List (Int × Int × List UInt8 × List UInt8)) (el : Nat) : St cod := ⟨tmG 21 [(5, .c (.own 6 el)), (14, .c (.slc 7 0 m false)), (0, .c (.int .i64 (m : Int))), (0, .c (.int .i64 (k : Int)))], ([.blk [.ptr 1 0 0] 23, .blk [.own 2 (List.length P), .own 3 (List.length S), .own 4 (List.length W), .int .i64 t, .int .i64 d, .int .i64 a] 50, .own 2 P 9, .own 2 S 9, .own 6 W 61, .own 1 [] 56, .own 5 es 31, .inp 2 Q] : Heap cod)⟩


theorem stat_t6 (P S : List (List UInt8)) (W : List (Int × Int × Bool × List UInt8)) (t d a : Int) (n : Int) (Q : List (List UInt8)) (m k : Nat) (es : List (Int × Int × List UInt8 × List UInt8)) (el : Nat) : symI C_gpri cuts_stat Tryz.f6.results.toList ([.blk [.ptr 1 0 0] 23, .blk [.own 2 (List.length P), .own 3 (List.length S), .own 4 (List.length W), .int .i64 t, .int .i64 d, .int .i64 a] 50, .own 2 P 9, .own 2 S 9, .own 6 W 61] : Heap cod) 400 (cutAt Tryz.f6 6) (st_stat_6 P S W t d a n Q m k es el) =
 cond (decide (Int.ofNat k < Int.ofNat m)) (
 .need (((0 : Int) ≤ Int.ofNat k ∧ Int.ofNat k < Int.ofNat m)) (
 .need (0 + Int.toNat (Int.ofNat k) < List.length Q) (
 .need (i64ok (Int.ofNat k + 1)) (
 .need (1 = 1) (
 .need (el + 1 ≤ 1000000) (
 .need (i64ok (Int.ofNat k + 1)) (
 .ret (.cut (cutAt Tryz.f6 6) ⟨tmG 21 [(5, .c (.own 6 (el + 1))), (14, .c (.slc 7 0 (m) false)), (0, .c (.int .i64 (Int.ofNat m))), (0, .c (.int .i64 (Int.ofNat k + 1)))], [.blk [.ptr 1 0 0] 23, .blk [.own 2 (List.length P), .own 3 (List.length S), .own 4 (List.length W), .int .i64 t, .int .i64 d, .int .i64 a] 50, .own 2 P 9, .own 2 S 9, .own 6 W 61, .own 1 [] 56, .own 5 (es ++ ([(Int.ofNat k + 1, 0, [115, 101, 116], List.getD Q (0 + Int.toNat (Int.ofNat k)) (cod 2).d)])) 31, .inp 2 Q]⟩)))))))) (
 .need (((0 = 0 ∧ el = List.length es) ∧ (es = F.ents 1 (F.txs es) ∧ F.okTs (F.txs es)))) (
 .ret (.fin (.tup [.c (.own 5 (List.length (F.runT [] (F.txs es)))), .c (.bool (decide (0 = 0)))]) [.blk [.ptr 1 0 0] 23, .blk [.own 2 (List.length P), .own 3 (List.length S), .own 4 (List.length W), .int .i64 t, .int .i64 d, .int .i64 a] 50, .own 2 P 9, .own 2 S 9, .own 6 W 61, .own 1 (F.runT [] (F.txs es)) 56]))) := by kernel_rfl



theorem ents_app : ∀ (l : List F.Txt) (j : Nat) (x : F.Txt), F.ents j (l ++ [x]) = F.ents j l ++ [(((j + l.length : Nat) : Int), 0, F.kSet, x)]
  | [], j, x => rfl
  | y :: l, j, x => by
    rw [List.cons_append, F.ents, ents_app l (j + 1) x, F.ents, List.length_cons, show j + 1 + l.length = j + (l.length + 1) by omega]
    rfl
theorem stat6 (P S : List (List UInt8)) (W : List (Int × Int × Bool × List UInt8)) (t d a : Int) (n : Int) (b0 : Base) (hb : b0.n = 5) (Q : List F.Txt) (hQ : F.okTs Q) (m : Nat) (hm : m ≤ Q.length) (XX : List F.Txt) (hX : XX = Q.take m) : ∀ (j k : Nat) (es : List F.Ent) (el : Nat), k + j = m → es = F.ents 1 (Q.take k) → el = es.length →
    Sym.Runs Tryz.prog b0 (cutAt Tryz.f6 6) (st_stat_6 P S W t d a n Q m k es el) (Sym.EndsI Tryz.prog Tryz.f6 ([.blk [.ptr 1 0 0] 23, .blk [.own 2 (List.length P), .own 3 (List.length S), .own 4 (List.length W), .int .i64 t, .int .i64 d, .int .i64 a] 50, .own 2 P 9, .own 2 S 9, .own 6 W 61] : Heap cod) (.tup [.c (.own 5 (List.length (F.runT [] XX))), .c (.bool true)]) [.blk [.ptr 1 0 0] 23, .blk [.own 2 (List.length P), .own 3 (List.length S), .own 4 (List.length W), .int .i64 t, .int .i64 d, .int .i64 a] 50, .own 2 P 9, .own 2 S 9, .own 6 W 61, .own 1 (F.runT [] XX) 56]) := by
  have d2 : (cod 2).d = ([] : List UInt8) := rfl
  obtain ⟨q1, q2⟩ := hQ
  intro j
  induction j with
  | zero =>
    intro k es el hk he hl
    have hkm : k = m := by omega
    subst hkm
    have ht : F.txs es = XX := by rw [he, ents_txs, hX]
    refine Runs.goI (cfg := C_gpri) L_gpri_ok mixed cuts_stat 400 (H := ([.blk [.ptr 1 0 0] 23, .blk [.own 2 (List.length P), .own 3 (List.length S), .own 4 (List.length W), .int .i64 t, .int .i64 d, .int .i64 a] 50, .own 2 P 9, .own 2 S 9, .own 6 W 61] : Heap cod)) hb (stat_t6 P S W t d a n Q k k es el) ?_
    rw [ht, T.wp_cond]
    refine ite_no (by simp) ⟨⟨⟨rfl, hl⟩, by rw [hX]; exact he, fun x hx => q1 x (by rw [hX] at hx; exact List.mem_of_mem_take hx), by rw [hX, List.length_take]; omega⟩, rfl, rfl⟩
  | succ j ih =>
    intro k es el hk he hl
    have hkQ : k < Q.length := by omega
    have hel : es.length = k := by rw [he, ents_len, List.length_take]; omega
    have e1 : es ++ [((k : Int) + 1, 0, [115, 101, 116], Q.getD k [])] = F.ents 1 (Q.take (k + 1)) := by
      rw [List.take_add_one, List.getElem?_eq_getElem hkQ]
      show _ = F.ents 1 (Q.take k ++ [Q[k]])
      rw [ents_app, ← he, List.getD_eq_getElem?_getD, List.getElem?_eq_getElem hkQ, List.length_take, show 1 + min k Q.length = k + 1 by omega]
      rfl
    have nx := ih (k + 1) _ (el + 1) (by omega) e1 (by rw [List.length_append, hl]; rfl)
    refine Runs.goI (cfg := C_gpri) L_gpri_ok mixed cuts_stat 400 (H := ([.blk [.ptr 1 0 0] 23, .blk [.own 2 (List.length P), .own 3 (List.length S), .own 4 (List.length W), .int .i64 t, .int .i64 d, .int .i64 a] 50, .own 2 P 9, .own 2 S 9, .own 6 W 61] : Heap cod)) hb (stat_t6 P S W t d a n Q m k es el) ?_
    simp only [T.wp, T.wp_cond, Aft, Int.ofNat_eq_natCast, decide_eq_true_eq, true_and, Nat.zero_add, Int.toNat_natCast, d2]
    exact ite_yes (by omega) ⟨⟨by omega, by omega⟩, hkQ, by unfold i64ok; omega, by omega, by unfold i64ok; omega, nx⟩
theorem stat_run (P S : List (List UInt8)) (W : List (Int × Int × Bool × List UInt8)) (t d a : Int) (n : Int) (b0 : Base) (hb : b0.n = 5) (h0 : 0 ≤ n ∧ n ≤ P.length ∧ F.okTs P) : Sym.Runs Tryz.prog b0 [.code (codeOf Tryz.f6)] ⟨argsS Tryz.f6 [.c (.int .i64 n), .c (.ptr 0 0 0)], ([.blk [.ptr 1 0 0] 23, .blk [.own 2 (List.length P), .own 3 (List.length S), .own 4 (List.length W), .int .i64 t, .int .i64 d, .int .i64 a] 50, .own 2 P 9, .own 2 S 9, .own 6 W 61] : Heap cod)⟩ (Sym.EndsI Tryz.prog Tryz.f6 ([.blk [.ptr 1 0 0] 23, .blk [.own 2 (List.length P), .own 3 (List.length S), .own 4 (List.length W), .int .i64 t, .int .i64 d, .int .i64 a] 50, .own 2 P 9, .own 2 S 9, .own 6 W 61] : Heap cod) (.tup [.c (.own 5 (List.length (F.runT [] (P.take n.toNat)))), .c (.bool true)]) [.blk [.ptr 1 0 0] 23, .blk [.own 2 (List.length P), .own 3 (List.length S), .own 4 (List.length W), .int .i64 t, .int .i64 d, .int .i64 a] 50, .own 2 P 9, .own 2 S 9, .own 6 W 61, .own 1 (F.runT [] (P.take n.toNat)) 56]) := by
  obtain ⟨n0, n1, hQ⟩ := h0
  obtain ⟨q1, q2⟩ := hQ
  refine Runs.goI (cfg := C_gpri) L_gpri_ok mixed cuts_stat 400 (H := ([.blk [.ptr 1 0 0] 23, .blk [.own 2 (List.length P), .own 3 (List.length S), .own 4 (List.length W), .int .i64 t, .int .i64 d, .int .i64 a] 50, .own 2 P 9, .own 2 S 9, .own 6 W 61] : Heap cod)) hb (stat_t0 P S W t d a n) ?_
  refine ⟨fun h => ?_, fun h => ?_⟩
  · rw [decide_eq_true_eq] at h
    have hP : P = [] := List.eq_nil_of_length_eq_zero h
    subst hP
    have hn : n = 0 := by
      have : ((([] : List F.Txt).length : Nat) : Int) = 0 := rfl
      omega
    subst hn
    refine ⟨rfl, rfl, ?_⟩
    refine Runs.weaken (st' := st_stat_r3a [] S W t d a 0) (fun a w hR => hR) ?_
    refine Runs.goI (cfg := C_gpri) L_gpri_ok mixed cuts_stat_r3a 400 (H := ([.blk [.ptr 1 0 0] 23, .blk [.own 2 (List.length ([] : List F.Txt)), .own 3 (List.length S), .own 4 (List.length W), .int .i64 t, .int .i64 d, .int .i64 a] 50, .own 2 [] 9, .own 2 S 9, .own 6 W 61] : Heap cod)) hb (stat_tr3a [] S W t d a 0) ?_
    rw [T.wp_cond]
    refine ite_no (by decide) ⟨⟨by decide, by decide⟩, ?_⟩
    refine Runs.weaken (st' := st_stat_6a [] S W t d a 0) (fun a w hR => hR) ?_
    refine Runs.goI (cfg := C_gpri) L_gpri_ok mixed cuts_stat 400 (H := ([.blk [.ptr 1 0 0] 23, .blk [.own 2 (List.length ([] : List F.Txt)), .own 3 (List.length S), .own 4 (List.length W), .int .i64 t, .int .i64 d, .int .i64 a] 50, .own 2 [] 9, .own 2 S 9, .own 6 W 61] : Heap cod)) hb (stat_t6a [] S W t d a 0) ?_
    exact ⟨⟨⟨rfl, rfl⟩, rfl, (fun x hx => by cases hx), by decide⟩, rfl, rfl⟩
  · refine ⟨rfl, ⟨by rw [decide_eq_false_iff_not] at h; omega, q2⟩, ?_⟩
    refine Runs.view 7 rfl (Runs.soft 6 rfl ?_)
    refine Runs.weaken (st' := st_stat_r3b P S W t d a n P) (fun a w hR => hR) ?_
    refine Runs.goI (cfg := C_gpri) L_gpri_ok mixed cuts_stat_r3b 400 (H := ([.blk [.ptr 1 0 0] 23, .blk [.own 2 (List.length P), .own 3 (List.length S), .own 4 (List.length W), .int .i64 t, .int .i64 d, .int .i64 a] 50, .own 2 P 9, .own 2 S 9, .own 6 W 61] : Heap cod)) hb (stat_tr3b P S W t d a n P) ?_
    have A := stat6 P S W t d a n b0 hb P ⟨q1, q2⟩ n.toNat (by omega) (P.take n.toNat) rfl n.toNat 0 [] 0 (by omega) rfl rfl
    simp only [T.wp, T.wp_cond, Aft, Int.ofNat_eq_natCast, decide_eq_true_eq]
    exact ite_no (by omega) ⟨⟨by omega, by omega⟩, A⟩



noncomputable def s_stat : Summ cod := fun args H => match args, H with
  | [.c (.int .i64 n), .c (.ptr 0 0 0)], [.blk [.ptr 1 0 0] 23, .blk [.own 2 pn, .own 3 sn, .own 4 wn, .int .i64 t, .int .i64 d, .int .i64 a] 50, o2, o3, o4] => (match o2.asOwn 2 9 with | some P => (match o3.asOwn 2 9 with | some S => (match o4.asOwn 6 61 with | some W => .need ((.blk [.own 2 pn, .own 3 sn, .own 4 wn, .int .i64 t, .int .i64 d, .int .i64 a] 50 : HObj cod) = .blk [.own 2 (List.length P), .own 3 (List.length S), .own 4 (List.length W), .int .i64 t, .int .i64 d, .int .i64 a] 50) (.need ((0 ≤ n ∧ n ≤ P.length ∧ F.okTs P)) (.ret (.tup [.c (.own 5 (List.length (F.runT [] (P.take n.toNat)))), .c (.bool true)], [.blk [.ptr 1 0 0] 23, .blk [.own 2 (List.length P), .own 3 (List.length S), .own 4 (List.length W), .int .i64 t, .int .i64 d, .int .i64 a] 50, .own 2 P 9, .own 2 S 9, .own 6 W 61, .own 1 (F.runT [] (P.take n.toNat)) 56]))) | none => .fail) | none => .fail) | none => .fail)
  | _, _ => .fail


theorem stat_sound : SoundI Tryz.prog cod 6 s_stat := tree_soundI (cfg := C_gpri) Tryz.func6 rfl rfl _ fun args H r H' hg b0 hb => by
  unfold s_stat at hg
  split at hg
  · skip
    split at hg
    · rename_i P hx2
      cases asOwn_spec hx2
      split at hg
      · rename_i S hx3
        cases asOwn_spec hx3
        split at hg
        · rename_i W hx4
          cases asOwn_spec hx4
          obtain ⟨ot0, hg⟩ := hg
          cases ot0
          obtain ⟨hq, hg⟩ := hg
          have q0 := hq
          cases hg
          exact stat_run _ _ _ _ _ _ _ b0 hb (by assumption)
        · exact hg.elim
      · exact hg.elim
    · exact hg.elim
  · exact hg.elim

noncomputable def L_stat : Sums cod := (6, .i s_stat) :: L_gpri
noncomputable def C_stat : Cfg cod := mkC L_stat

theorem L_stat_ok : Snd Tryz.prog cod L_stat := .consI stat_sound L_gpri_ok


end
end Go.Proofs.YtiolfkmkbccndaaGreatDoor
