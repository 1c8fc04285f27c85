/- Part of a claim: lemmas on the way to its theorem; each states its own conditions. -/
import Derived.Test.YtffcfbamcaoidaaRc
namespace Go.Proofs.Ytffcfbamcaoidaa
open Sym Go.RowKit
noncomputable section
set_option maxRecDepth 100000
set_option maxHeartbeats 4000000



def cuts_cl : Cuts := [(3, [1, 11, 3, 0, 2, 12, 13, 6], 40), (8, [6, 27, 3, 0, 28, 29], 40)]

theorem cl_t0 (l : List (List UInt8 × Int × Int × Int)) (l_t : Bool) (g0 g1 g2 g3 g4 g5 g6 g7 g8 g9 g10 g11 g12 g13 g14 g15 : Int) (o : List Int) (o_t : Bool) (ln on : Nat) : symI C_order cuts_cl Try.f47.results.toList ([.arr 0 o 3, .blk [.slc 4 0 ln l_t] 42, .arr 0 [g0, g1, g2, g3, g4, g5, g6, g7, g8, g9, g10, g11, g12, g13, g14, g15] 43, .blk [.nil] 45, .inp 7 l] : Heap cod) 400 [.code (codeOf Try.f47)] ⟨argsS Try.f47 [.c (.slc 0 0 on o_t), .c (.ptr 1 0 0), .c (.ptr 2 0 0), .c (.ptr 3 0 0)], ([.arr 0 o 3, .blk [.slc 4 0 ln l_t] 42, .arr 0 [g0, g1, g2, g3, g4, g5, g6, g7, g8, g9, g10, g11, g12, g13, g14, g15] 43, .blk [.nil] 45, .inp 7 l] : Heap cod)⟩ =
.ret (.cut (cutAt Try.f47 3) ⟨tmG 30 [(0, .c (.slc 0 0 (on) o_t)), (0, .c (.ptr 1 0 0)), (0, .c (.ptr 2 0 0)), (0, .c (.ptr 3 0 0)), (2, .c (.own 5 0)), (4, .c (.slc 0 0 (on) o_t)), (0, .c (.int .i64 (Int.ofNat on))), (0, .c (.int .i64 0))], [.arr 0 o 3, .blk [.slc 4 0 (ln) l_t] 42, .arr 0 [g0, g1, g2, g3, g4, g5, g6, g7, g8, g9, g10, g11, g12, g13, g14, g15] 43, .blk [.nil] 45, .inp 7 l, .own 7 [] 51]⟩) := by kernel_rfl


noncomputable def st_cl_3 (l : List (List UInt8 × Int × Int × Int)) (l_t : Bool) (g0 g1 g2 g3 g4 g5 g6 g7 g8 g9 g10 g11 g12 g13 g14 g15 : Int) (o : List Int) (o_t : Bool) (ln on : Nat) (k : Int) (x : List (List UInt8 × Int × Int × Int)) (xn : Nat) : St cod := ⟨tmG 30 [(0, .c (.slc 0 0 (on) o_t)), (0, .c (.ptr 1 0 0)), (0, .c (.ptr 2 0 0)), (0, .c (.ptr 3 0 0)), (2, .c (.own 5 xn)), (4, .c (.slc 0 0 (on) o_t)), (0, .c (.int .i64 (Int.ofNat on))), (0, .c (.int .i64 k))], ([.arr 0 o 3, .blk [.slc 4 0 ln l_t] 42, .arr 0 [g0, g1, g2, g3, g4, g5, g6, g7, g8, g9, g10, g11, g12, g13, g14, g15] 43, .blk [.nil] 45, .inp 7 l, .own 7 x 51] : Heap cod)⟩


theorem cl_t3 (l : List (List UInt8 × Int × Int × Int)) (l_t : Bool) (g0 g1 g2 g3 g4 g5 g6 g7 g8 g9 g10 g11 g12 g13 g14 g15 : Int) (o : List Int) (o_t : Bool) (ln on : Nat) (k : Int) (x : List (List UInt8 × Int × Int × Int)) (xn : Nat) : symI C_order cuts_cl Try.f47.results.toList ([.arr 0 o 3, .blk [.slc 4 0 ln l_t] 42, .arr 0 [g0, g1, g2, g3, g4, g5, g6, g7, g8, g9, g10, g11, g12, g13, g14, g15] 43, .blk [.nil] 45, .inp 7 l] : Heap cod) 400 (cutAt Try.f47 3) (st_cl_3 l l_t g0 g1 g2 g3 g4 g5 g6 g7 g8 g9 g10 g11 g12 g13 g14 g15 o o_t ln on k x xn) =
 cond (decide (k < Int.ofNat on)) (
 .need (((0 : Int) ≤ k ∧ k < Int.ofNat on)) (
 .need (0 + Int.toNat k < List.length o) (
 .need (((0 : Int) ≤ List.getD o (0 + Int.toNat k) (cod 0).d ∧ List.getD o (0 + Int.toNat k) (cod 0).d < Int.ofNat ln)) (
 .need (0 + Int.toNat (List.getD o (0 + Int.toNat k) (cod 0).d) < List.length l) (
 .need (1 = 1) (
 .need (xn + 1 ≤ 1000000) (
 .need (i64ok (k + 1)) (
 .ret (.cut (cutAt Try.f47 3) ⟨tmG 30 [(0, .c (.slc 0 0 (on) o_t)), (0, .c (.ptr 1 0 0)), (0, .c (.ptr 2 0 0)), (0, .c (.ptr 3 0 0)), (2, .c (.own 5 (xn + 1))), (4, .c (.slc 0 0 (on) o_t)), (0, .c (.int .i64 (Int.ofNat on))), (0, .c (.int .i64 (k + 1)))], [.arr 0 o 3, .blk [.slc 4 0 (ln) l_t] 42, .arr 0 [g0, g1, g2, g3, g4, g5, g6, g7, g8, g9, g10, g11, g12, g13, g14, g15] 43, .blk [.nil] 45, .inp 7 l, .own 7 (x ++ ([((List.getD l (0 + Int.toNat (List.getD o (0 + Int.toNat k) (cod 0).d)) (cod 7).d).1,     (List.getD l (0 + Int.toNat (List.getD o (0 + Int.toNat k) (cod 0).d)) (cod 7).d).2.1,     (List.getD l (0 + Int.toNat (List.getD o (0 + Int.toNat k) (cod 0).d)) (cod 7).d).2.2.1,     (List.getD l (0 + Int.toNat (List.getD o (0 + Int.toNat k) (cod 0).d)) (cod 7).d).2.2.2)])) 51, .arr 7 ([((List.getD l (0 + Int.toNat (List.getD o (0 + Int.toNat k) (cod 0).d)) (cod 7).d).1,     (List.getD l (0 + Int.toNat (List.getD o (0 + Int.toNat k) (cod 0).d)) (cod 7).d).2.1,     (List.getD l (0 + Int.toNat (List.getD o (0 + Int.toNat k) (cod 0).d)) (cod 7).d).2.2.1,     (List.getD l (0 + Int.toNat (List.getD o (0 + Int.toNat k) (cod 0).d)) (cod 7).d).2.2.2)]) 51]⟩))))))))) (
 .need (16 * 1 = 16) (
 .need (((0 = 0 ∧ xn = List.length x) ∧ F.apE x [(g0, g1, g2, g3), (g4, g5, g6, g7), (g8, g9, g10, g11), (g12, g13, g14, g15)] = 0)) (
 .ret (.cut (cutAt Try.f47 8) ⟨tmG 14 [(0, .c (.slc 0 0 (on) o_t)), (2, .c (.ptr 3 0 0)), (2, .c (.own 5 (xn))), (20, .c (.slc 6 0 (List.length x) true)), (0, .c (.int .i64 (Int.ofNat (List.length x)))), (0, .c (.int .i64 0))], [.arr 0 o 3, .blk [.slc 4 0 (ln) l_t] 42, .arr 0 [g0, g1, g2, g3, g4, g5, g6, g7, g8, g9, g10, g11, g12, g13, g14, g15] 43, .blk [.nil] 45, .inp 7 l, .own 7 x 51, .arr 0 (F.tms x [g0, g1, g2, g3, g4, g5, g6, g7, g8, g9, g10, g11, g12, g13, g14, g15] (List.length x)) 3]⟩)))) := by kernel_rfl


noncomputable def st_cl_8 (l : List (List UInt8 × Int × Int × Int)) (l_t : Bool) (g0 g1 g2 g3 g4 g5 g6 g7 g8 g9 g10 g11 g12 g13 g14 g15 : Int) (o : List Int) (o_t : Bool) (ln on : Nat) (k : Int) (x : List (List UInt8 × Int × Int × Int)) (xn : Nat) (ts : List Int) (tn : Nat) (tt : Bool) : St cod := ⟨tmG 14 [(0, .c (.slc 0 0 (on) o_t)), (2, .c (.ptr 3 0 0)), (2, .c (.own 5 xn)), (20, .c (.slc 6 0 tn tt)), (0, .c (.int .i64 (Int.ofNat (List.length x)))), (0, .c (.int .i64 k))], ([.arr 0 o 3, .blk [.slc 4 0 ln l_t] 42, .arr 0 [g0, g1, g2, g3, g4, g5, g6, g7, g8, g9, g10, g11, g12, g13, g14, g15] 43, .blk [.nil] 45, .inp 7 l, .own 7 x 51, .arr 0 ts 3] : Heap cod)⟩


theorem cl_t8 (l : List (List UInt8 × Int × Int × Int)) (l_t : Bool) (g0 g1 g2 g3 g4 g5 g6 g7 g8 g9 g10 g11 g12 g13 g14 g15 : Int) (o : List Int) (o_t : Bool) (ln on : Nat) (k : Int) (x : List (List UInt8 × Int × Int × Int)) (xn : Nat) (ts : List Int) (tn : Nat) (tt : Bool) : symI C_order cuts_cl Try.f47.results.toList ([.arr 0 o 3, .blk [.slc 4 0 ln l_t] 42, .arr 0 [g0, g1, g2, g3, g4, g5, g6, g7, g8, g9, g10, g11, g12, g13, g14, g15] 43, .blk [.nil] 45, .inp 7 l] : Heap cod) 400 (cutAt Try.f47 8) (st_cl_8 l l_t g0 g1 g2 g3 g4 g5 g6 g7 g8 g9 g10 g11 g12 g13 g14 g15 o o_t ln on k x xn ts tn tt) =
 cond (decide (k < Int.ofNat (List.length x))) (
 .need (((0 : Int) ≤ k ∧ k < Int.ofNat tn)) (
 .need (0 + Int.toNat k < List.length ts) (
 .need (((0 : Int) ≤ k ∧ k < Int.ofNat xn)) (
 .need (0 + Int.toNat k < List.length x) (
 cond (decide ((List.getD x (0 + Int.toNat k) (cod 7).d).2.2.2 < List.getD ts (0 + Int.toNat k) (cod 0).d)) (
  .ret (.fin (.c (.bool false)) [.arr 0 o 3, .blk [.slc 4 0 (ln) l_t] 42, .arr 0 [g0, g1, g2, g3, g4, g5, g6, g7, g8, g9, g10, g11, g12, g13, g14, g15] 43, .blk [.nil] 45, .dead])) (
  .need (i64ok (k + 1)) (
  .ret (.cut (cutAt Try.f47 8) ⟨tmG 14 [(0, .c (.slc 0 0 (on) o_t)), (2, .c (.ptr 3 0 0)), (2, .c (.own 5 (xn))), (20, .c (.slc 6 0 (tn) tt)), (0, .c (.int .i64 (Int.ofNat (List.length x)))), (0, .c (.int .i64 (k + 1)))], [.arr 0 o 3, .blk [.slc 4 0 (ln) l_t] 42, .arr 0 [g0, g1, g2, g3, g4, g5, g6, g7, g8, g9, g10, g11, g12, g13, g14, g15] 43, .blk [.nil] 45, .inp 7 l, .own 7 x 51, .arr 0 ts 3]⟩)))))))) (
 .ite (decide (on = 0)) (
  .need (on = 0) (
  .ret (.fin (.c (.bool true)) [.arr 0 o 3, .blk [.slc 4 0 (ln) l_t] 42, .arr 0 [g0, g1, g2, g3, g4, g5, g6, g7, g8, g9, g10, g11, g12, g13, g14, g15] 43, .blk [.slc 0 0 0 true] 45, .dead]))) (
  .need ((0 + on ≤ List.length o ∧ ((0 : Nat) < on ∧ on ≤ 1000000))) (
  .ret (.fin (.c (.bool true)) [.arr 0 o 3, .blk [.slc 4 0 (ln) l_t] 42, .arr 0 [g0, g1, g2, g3, g4, g5, g6, g7, g8, g9, g10, g11, g12, g13, g14, g15] 43, .blk [.own 5 (on)] 45, .dead, .own 0 (List.take on (List.drop 0 o)) 3])))) := by kernel_rfl



def F.clR (l_t : Bool) (g0 g1 g2 g3 g4 g5 g6 g7 g8 g9 g10 g11 g12 g13 g14 g15 : Int) (o : List Int) (ln on : Nat) : Bool → SV × Heap cod
  | true => if on = 0 then (.c (.bool true), [.arr 0 o 3, .blk [.slc 4 0 ln l_t] 42, .arr 0 [g0, g1, g2, g3, g4, g5, g6, g7, g8, g9, g10, g11, g12, g13, g14, g15] 43, .blk [.slc 0 0 0 true] 45, .dead])
    else (.c (.bool true), [.arr 0 o 3, .blk [.slc 4 0 ln l_t] 42, .arr 0 [g0, g1, g2, g3, g4, g5, g6, g7, g8, g9, g10, g11, g12, g13, g14, g15] 43, .blk [.own 5 on] 45, .dead, .own 0 o 3])
  | false => (.c (.bool false), [.arr 0 o 3, .blk [.slc 4 0 ln l_t] 42, .arr 0 [g0, g1, g2, g3, g4, g5, g6, g7, g8, g9, g10, g11, g12, g13, g14, g15] 43, .blk [.nil] 45, .dead])
def F.gdk (l : List F.It) (o ts : List Int) (k : Nat) : Bool := ((ts.zip o).drop k).all fun p => decide (p.1 ≤ F.slot l p.2)
theorem gdk_step {l : List F.It} {o ts : List Int} {k : Nat} (hk : k < o.length) (ht : ts.length = o.length) : F.gdk l o ts k = (decide (ts.getD k 0 ≤ F.slot l (o.getD k 0)) && F.gdk l o ts (k + 1)) := by
  unfold F.gdk
  rw [List.drop_eq_getElem_cons (i := k) (by rw [List.length_zip]; omega), List.all_cons, List.getElem_zip]
  have h1 : ts.getD k 0 = ts[k] := by rw [List.getD, List.getElem?_eq_getElem (by omega)]; rfl
  have h2 : o.getD k 0 = o[k] := by rw [List.getD, List.getElem?_eq_getElem (by omega)]; rfl
  rw [h1, h2]
theorem cl_loop8 (l : List F.It) (l_t : Bool) (g0 g1 g2 g3 g4 g5 g6 g7 g8 g9 g10 g11 g12 g13 g14 g15 : Int) (o : List Int) (o_t : Bool) (ln on : Nat) (x : List F.It) (ts : List Int) (tt : Bool) (hon : on = o.length) (hx : x = F.at7 l o) (ht : ts.length = on) (h5 : on ≤ 1000) (b0 : Base) (hb : b0.n = 5) (R : SV) (N : Heap cod) :
    ∀ (m k : Nat), k + m = on → (R, N) = F.clR l_t g0 g1 g2 g3 g4 g5 g6 g7 g8 g9 g10 g11 g12 g13 g14 g15 o ln on (F.gdk l o ts k) →
    Sym.Runs Try.prog b0 (cutAt Try.f47 8) (st_cl_8 l l_t g0 g1 g2 g3 g4 g5 g6 g7 g8 g9 g10 g11 g12 g13 g14 g15 o o_t ln on (k : Int) x on ts on tt) (Sym.EndsI Try.prog Try.f47 ([.arr 0 o 3, .blk [.slc 4 0 ln l_t] 42, .arr 0 [g0, g1, g2, g3, g4, g5, g6, g7, g8, g9, g10, g11, g12, g13, g14, g15] 43, .blk [.nil] 45, .inp 7 l] : Heap cod) R N) := by
  have hxl : x.length = on := by rw [hx, F.at7, List.length_map, hon]
  intro m
  induction m with
  | zero =>
    intro k hk hR
    have hg : F.gdk l o ts k = true := by unfold F.gdk; rw [List.drop_of_length_le (by rw [List.length_zip]; omega)]; rfl
    rw [hg] at hR
    refine Runs.goI (cfg := C_order) L_order_ok mixed cuts_cl 400 (H := ([.arr 0 o 3, .blk [.slc 4 0 ln l_t] 42, .arr 0 [g0, g1, g2, g3, g4, g5, g6, g7, g8, g9, g10, g11, g12, g13, g14, g15] 43, .blk [.nil] 45, .inp 7 l] : Heap cod)) hb (cl_t8 l l_t g0 g1 g2 g3 g4 g5 g6 g7 g8 g9 g10 g11 g12 g13 g14 g15 o o_t ln on (k : Int) x on ts on tt) ?_
    simp only [T.wp, T.wp_cond, Aft, decide_eq_true_eq, decide_eq_false_iff_not]
    refine ite_no (by simp only [Int.ofNat_eq_natCast]; omega) ⟨fun c => ⟨c, ?_⟩, fun c => ⟨⟨by omega, by omega, by omega⟩, ?_⟩⟩
    · simp only [F.clR, if_pos c, Prod.mk.injEq] at hR
      exact ⟨hR.1.symm, hR.2.symm⟩
    · simp only [F.clR, if_neg c, Prod.mk.injEq] at hR
      have ek : ∀ z : List Int, z = o → ([.arr 0 o 3, .blk [.slc 4 0 ln l_t] 42, .arr 0 [g0, g1, g2, g3, g4, g5, g6, g7, g8, g9, g10, g11, g12, g13, g14, g15] 43, .blk [.own 5 on] 45, .dead, .own 0 z 3] : Heap cod) = N := fun z e => by rw [e]; exact hR.2.symm
      exact ⟨hR.1.symm, ek _ (List.take_of_length_le (l := o) (by omega))⟩
  | succ m ih =>
    intro k hk hR
    have nx := ih (k + 1) (by omega)
    have kx : k < x.length := by omega
    have kt : k < ts.length := by omega
    have k64 : i64ok ((k : Int) + 1) := by unfold i64ok; omega
    have hs := (at7_wk l o k (by omega)).2.2
    rw [← hx] at hs
    rw [gdk_step (by omega) (by omega)] at hR
    refine Runs.goI (cfg := C_order) L_order_ok mixed cuts_cl 400 (H := ([.arr 0 o 3, .blk [.slc 4 0 ln l_t] 42, .arr 0 [g0, g1, g2, g3, g4, g5, g6, g7, g8, g9, g10, g11, g12, g13, g14, g15] 43, .blk [.nil] 45, .inp 7 l] : Heap cod)) hb (cl_t8 l l_t g0 g1 g2 g3 g4 g5 g6 g7 g8 g9 g10 g11 g12 g13 g14 g15 o o_t ln on (k : Int) x on ts on tt) ?_
    simp only [T.wp, T.wp_cond, Aft, decide_eq_true_eq, Nat.zero_add, Int.toNat_natCast]
    have k1 : (0 : Int) ≤ (k : Int) ∧ (k : Int) < Int.ofNat on := by simp only [Int.ofNat_eq_natCast]; omega
    refine ite_yes (by simp only [Int.ofNat_eq_natCast]; omega) ⟨k1, kt, k1, kx, ?_⟩
    by_cases c : F.slot l (o.getD k 0) < ts.getD k 0
    · rw [decide_eq_false (by omega), Bool.false_and] at hR
      simp only [F.clR, Prod.mk.injEq] at hR
      rw [← hs] at c
      exact ite_yes c ⟨hR.1.symm, hR.2.symm⟩
    · rw [decide_eq_true (by omega), Bool.true_and] at hR
      rw [← hs] at c
      exact ite_no c ⟨k64, nx hR⟩
theorem apE_at7 {l : List F.It} {g0 g1 g2 g3 g4 g5 g6 g7 g8 g9 g10 g11 g12 g13 g14 g15 : Int} (h0 : F.apE l [(g0, g1, g2, g3), (g4, g5, g6, g7), (g8, g9, g10, g11), (g12, g13, g14, g15)] = 0) {o : List Int} (ho : ∀ m ∈ o, 0 ≤ m ∧ m < l.length) (h5 : o.length ≤ 32) : F.apE (F.at7 l o) [(g0, g1, g2, g3), (g4, g5, g6, g7), (g8, g9, g10, g11), (g12, g13, g14, g15)] = 0 := by
  obtain ⟨_, _, _, h3⟩ := apE_zero h0
  have hG : ¬ F.okG [(g0, g1, g2, g3), (g4, g5, g6, g7), (g8, g9, g10, g11), (g12, g13, g14, g15)] = false := by
    intro c
    unfold F.apE at h0
    by_cases h : 32 < l.length
    · rw [if_pos h] at h0; omega
    · rw [if_neg h, if_pos c] at h0; omega
  unfold F.apE
  rw [if_neg (by rw [F.at7, List.length_map]; omega), if_neg hG, if_pos]
  rw [List.all_eq_true]
  intro x hx
  obtain ⟨i, hi, rfl⟩ := List.mem_map.1 hx
  have hi2 := ho i hi
  refine List.all_eq_true.1 h3 _ (getD_in (by omega))
theorem at7_take (l : List F.It) (o : List Int) {k : Nat} (hk : k < o.length) : F.at7 l (o.take (k + 1)) = F.at7 l (o.take k) ++ [l.getD (o.getD k 0).toNat ([], 0, 0, 0)] := by
  unfold F.at7
  rw [List.take_succ_eq_append_getElem hk, List.map_append]
  have : o.getD k 0 = o[k] := by rw [List.getD, List.getElem?_eq_getElem hk]; rfl
  rw [this]
  rfl
theorem cl_loop3 (l : List F.It) (l_t : Bool) (g0 g1 g2 g3 g4 g5 g6 g7 g8 g9 g10 g11 g12 g13 g14 g15 : Int) (o : List Int) (o_t : Bool) (ln on : Nat) (hln : ln = l.length) (hon : on = o.length) (h5 : on ≤ 32) (ho : ∀ m ∈ o, 0 ≤ m ∧ m < l.length) (h0 : F.apE l [(g0, g1, g2, g3), (g4, g5, g6, g7), (g8, g9, g10, g11), (g12, g13, g14, g15)] = 0) (b0 : Base) (hb : b0.n = 5) (R : SV) (N : Heap cod) (hR : (R, N) = F.clR l_t g0 g1 g2 g3 g4 g5 g6 g7 g8 g9 g10 g11 g12 g13 g14 g15 o ln on (F.gdB l [g0, g1, g2, g3, g4, g5, g6, g7, g8, g9, g10, g11, g12, g13, g14, g15] o)) :
    ∀ (m k : Nat) (x : List F.It) (xn : Nat), k + m = on → x = F.at7 l (o.take k) → xn = k →
    Sym.Runs Try.prog b0 (cutAt Try.f47 3) (st_cl_3 l l_t g0 g1 g2 g3 g4 g5 g6 g7 g8 g9 g10 g11 g12 g13 g14 g15 o o_t ln on (k : Int) x xn) (Sym.EndsI Try.prog Try.f47 ([.arr 0 o 3, .blk [.slc 4 0 ln l_t] 42, .arr 0 [g0, g1, g2, g3, g4, g5, g6, g7, g8, g9, g10, g11, g12, g13, g14, g15] 43, .blk [.nil] 45, .inp 7 l] : Heap cod) R N) := by
  intro m
  induction m with
  | zero =>
    intro k x xn hk hx hxn
    rw [List.take_of_length_le (by omega)] at hx
    have hxl : x.length = on := by rw [hx, F.at7, List.length_map, hon]
    obtain rfl : xn = on := by omega
    have ha : F.apE x [(g0, g1, g2, g3), (g4, g5, g6, g7), (g8, g9, g10, g11), (g12, g13, g14, g15)] = 0 := by rw [hx]; exact apE_at7 h0 ho (by omega)
    refine Runs.goI (cfg := C_order) L_order_ok mixed cuts_cl 400 (H := ([.arr 0 o 3, .blk [.slc 4 0 ln l_t] 42, .arr 0 [g0, g1, g2, g3, g4, g5, g6, g7, g8, g9, g10, g11, g12, g13, g14, g15] 43, .blk [.nil] 45, .inp 7 l] : Heap cod)) hb (cl_t3 l l_t g0 g1 g2 g3 g4 g5 g6 g7 g8 g9 g10 g11 g12 g13 g14 g15 o o_t ln xn (k : Int) x xn) ?_
    simp only [T.wp, T.wp_cond, Aft, decide_eq_true_eq]
    refine ite_no (by simp only [Int.ofNat_eq_natCast]; omega) ⟨trivial, ⟨⟨trivial, hxl.symm⟩, ha⟩, ?_⟩
    have ht : F.tms x [g0, g1, g2, g3, g4, g5, g6, g7, g8, g9, g10, g11, g12, g13, g14, g15] x.length = F.tmO l [g0, g1, g2, g3, g4, g5, g6, g7, g8, g9, g10, g11, g12, g13, g14, g15] o := by
      rw [hxl, hx, tms_at7 l [g0, g1, g2, g3, g4, g5, g6, g7, g8, g9, g10, g11, g12, g13, g14, g15] o xn (by omega), List.take_of_length_le (by omega)]
    rw [ht]
    have := cl_loop8 l l_t g0 g1 g2 g3 g4 g5 g6 g7 g8 g9 g10 g11 g12 g13 g14 g15 o o_t ln xn x (F.tmO l [g0, g1, g2, g3, g4, g5, g6, g7, g8, g9, g10, g11, g12, g13, g14, g15] o) true hon hx (by rw [tmO_len]; omega) (by omega) b0 hb R N xn 0 (by omega) hR
    have e : ∀ n : Nat, x.length = n → (st_cl_8 l l_t g0 g1 g2 g3 g4 g5 g6 g7 g8 g9 g10 g11 g12 g13 g14 g15 o o_t ln xn ((0 : Nat) : Int) x xn (F.tmO l [g0, g1, g2, g3, g4, g5, g6, g7, g8, g9, g10, g11, g12, g13, g14, g15] o) xn true) = (st_cl_8 l l_t g0 g1 g2 g3 g4 g5 g6 g7 g8 g9 g10 g11 g12 g13 g14 g15 o o_t ln xn ((0 : Nat) : Int) x xn (F.tmO l [g0, g1, g2, g3, g4, g5, g6, g7, g8, g9, g10, g11, g12, g13, g14, g15] o) n true) := fun n h => by rw [← h, hxl]
    rw [e x.length rfl] at this
    exact this
  | succ m ih =>
    intro k x xn hk hx hxn
    have k64 : i64ok ((k : Int) + 1) := by unfold i64ok; omega
    have ko : k < o.length := by omega
    have hm := ho (o.getD k 0) (getD_in ko)
    have kl : (o.getD k 0).toNat < l.length := by omega
    have k1 : (0 : Int) ≤ (k : Int) ∧ (k : Int) < Int.ofNat on := by simp only [Int.ofNat_eq_natCast]; omega
    have nx := ih (k + 1) (x ++ [l.getD (o.getD k 0).toNat ([], 0, 0, 0)]) (xn + 1) (by omega) (by rw [at7_take l o ko, hx]) (by omega)
    refine Runs.goI (cfg := C_order) L_order_ok mixed cuts_cl 400 (H := ([.arr 0 o 3, .blk [.slc 4 0 ln l_t] 42, .arr 0 [g0, g1, g2, g3, g4, g5, g6, g7, g8, g9, g10, g11, g12, g13, g14, g15] 43, .blk [.nil] 45, .inp 7 l] : Heap cod)) hb (cl_t3 l l_t g0 g1 g2 g3 g4 g5 g6 g7 g8 g9 g10 g11 g12 g13 g14 g15 o o_t ln on (k : Int) x xn) ?_
    simp only [T.wp, T.wp_cond, Aft, decide_eq_true_eq, Nat.zero_add, Int.toNat_natCast]
    refine ite_yes k1.2 ⟨k1, ko, ⟨hm.1, by have := hm.2; simp only [Int.ofNat_eq_natCast]; rw [hln]; exact this⟩, kl, trivial, by omega, k64, ?_⟩
    exact Runs.turn [0, 1, 2, 3, 4, 5] 13 hb (by decide) rfl rfl rfl nx
theorem ptr_eq : True := trivial


def F.inL (l : List F.It) (o : List Int) : Prop := ∀ m ∈ o, 0 ≤ m ∧ m < l.length
noncomputable def s_cl : Summ cod := fun args H => match args, H with
  | [.c (.slc 0 i0 on _), .c (.ptr 1 0 0), .c (.ptr 2 0 0), .c (.ptr 3 0 0)], [o0, .blk [.slc 4 li ln l_t] tl, o2, .blk [.nil] tw, o4] => (match asArr 0 3 o0 with
    | some o => (match asArr 0 43 o2 with
      | some [g0, g1, g2, g3, g4, g5, g6, g7, g8, g9, g10, g11, g12, g13, g14, g15] => (match o4.asInp 7 with
        | some l => .need (((i0 = 0 ∧ on = List.length o) ∧ (li = 0 ∧ ln = List.length l) ∧ (tl = 42 ∧ tw = 45)) ∧ on ≤ 32 ∧ F.inL l o ∧ F.apE l [(g0, g1, g2, g3), (g4, g5, g6, g7), (g8, g9, g10, g11), (g12, g13, g14, g15)] = 0)
            (.ite (F.gdB l [g0, g1, g2, g3, g4, g5, g6, g7, g8, g9, g10, g11, g12, g13, g14, g15] o) (.ite (decide (on = 0)) (.ret (.c (.bool true), [.arr 0 o 3, .blk [.slc 4 0 ln l_t] 42, .arr 0 [g0, g1, g2, g3, g4, g5, g6, g7, g8, g9, g10, g11, g12, g13, g14, g15] 43, .blk [.slc 0 0 0 true] 45, .dead]))
              (.ret (.c (.bool true), [.arr 0 o 3, .blk [.slc 4 0 ln l_t] 42, .arr 0 [g0, g1, g2, g3, g4, g5, g6, g7, g8, g9, g10, g11, g12, g13, g14, g15] 43, .blk [.own 5 on] 45, .dead, .own 0 o 3])))
              (.ret (.c (.bool false), [.arr 0 o 3, .blk [.slc 4 0 ln l_t] 42, .arr 0 [g0, g1, g2, g3, g4, g5, g6, g7, g8, g9, g10, g11, g12, g13, g14, g15] 43, .blk [.nil] 45, .dead])))
        | none => .fail)
      | _ => .fail)
    | none => .fail)
  | _, _ => .fail


theorem cl_run (l : List F.It) (l_t : Bool) (g0 g1 g2 g3 g4 g5 g6 g7 g8 g9 g10 g11 g12 g13 g14 g15 : Int) (o : List Int) (o_t : Bool) (ln on : Nat) (hln : ln = l.length) (hon : on = o.length) (h5 : on ≤ 32) (ho : ∀ m ∈ o, 0 ≤ m ∧ m < l.length) (h0 : F.apE l [(g0, g1, g2, g3), (g4, g5, g6, g7), (g8, g9, g10, g11), (g12, g13, g14, g15)] = 0) (b0 : Base) (hb : b0.n = 5) (R : SV) (N : Heap cod) (hR : (R, N) = F.clR l_t g0 g1 g2 g3 g4 g5 g6 g7 g8 g9 g10 g11 g12 g13 g14 g15 o ln on (F.gdB l [g0, g1, g2, g3, g4, g5, g6, g7, g8, g9, g10, g11, g12, g13, g14, g15] o)) :
    Sym.Runs Try.prog b0 [.code (codeOf Try.f47)] ⟨argsS Try.f47 [.c (.slc 0 0 on o_t), .c (.ptr 1 0 0), .c (.ptr 2 0 0), .c (.ptr 3 0 0)], ([.arr 0 o 3, .blk [.slc 4 0 ln l_t] 42, .arr 0 [g0, g1, g2, g3, g4, g5, g6, g7, g8, g9, g10, g11, g12, g13, g14, g15] 43, .blk [.nil] 45, .inp 7 l] : Heap cod)⟩ (Sym.EndsI Try.prog Try.f47 ([.arr 0 o 3, .blk [.slc 4 0 ln l_t] 42, .arr 0 [g0, g1, g2, g3, g4, g5, g6, g7, g8, g9, g10, g11, g12, g13, g14, g15] 43, .blk [.nil] 45, .inp 7 l] : Heap cod) R N) := by
  refine Runs.goI (cfg := C_order) L_order_ok mixed cuts_cl 400 (H := ([.arr 0 o 3, .blk [.slc 4 0 ln l_t] 42, .arr 0 [g0, g1, g2, g3, g4, g5, g6, g7, g8, g9, g10, g11, g12, g13, g14, g15] 43, .blk [.nil] 45, .inp 7 l] : Heap cod)) hb (cl_t0 l l_t g0 g1 g2 g3 g4 g5 g6 g7 g8 g9 g10 g11 g12 g13 g14 g15 o o_t ln on) ?_
  simp only [T.wp, Aft]
  exact cl_loop3 l l_t g0 g1 g2 g3 g4 g5 g6 g7 g8 g9 g10 g11 g12 g13 g14 g15 o o_t ln on hln hon h5 ho h0 b0 hb R N hR on 0 [] 0 (by omega) rfl rfl
theorem cl_sound : SoundI Try.prog cod 47 s_cl := tree_soundI (cfg := C_order) Try.func47 rfl rfl _ fun args H r H' hg b0 hb => by
  unfold s_cl at hg
  split at hg
  · rename_i i0 on o_t o0 li ln l_t tl o2 tw o4
    split at hg
    · rename_i o hx0
      split at hg
      · rename_i g0 g1 g2 g3 g4 g5 g6 g7 g8 g9 g10 g11 g12 g13 g14 g15 hx2
        split at hg
        · rename_i l hx4
          cases asArr_spec hx0
          cases asArr_spec hx2
          cases asInp_spec hx4
          obtain ⟨⟨⟨⟨rfl, hon⟩, ⟨rfl, hln⟩, rfl, rfl⟩, h5, ho, h0⟩, q1, q2⟩ := hg
          refine cl_run l l_t g0 g1 g2 g3 g4 g5 g6 g7 g8 g9 g10 g11 g12 g13 g14 g15 o o_t ln on hln hon h5 ho h0 b0 hb r H' ?_
          cases hb : F.gdB l [g0, g1, g2, g3, g4, g5, g6, g7, g8, g9, g10, g11, g12, g13, g14, g15] o with
          | true =>
            have q := q1 hb
            by_cases c : on = 0
            · cases q.1 (by simp [c])
              simp only [F.clR, c, if_true]
            · cases q.2 (by simp [c])
              simp only [F.clR, c, if_false]
          | false =>
            cases q2 hb
            rfl
        · exact hg.elim
      · exact hg.elim
    · exact hg.elim
  · exact hg.elim

noncomputable def L_cl : Sums cod := (47, .i s_cl) :: L_order
noncomputable def C_cl : Cfg cod := mkC L_cl

theorem L_cl_ok : Snd Try.prog cod L_cl := .consI cl_sound L_order_ok


end
end Go.Proofs.Ytffcfbamcaoidaa
