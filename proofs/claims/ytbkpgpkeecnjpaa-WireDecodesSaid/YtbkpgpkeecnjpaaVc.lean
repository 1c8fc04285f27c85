/- Part of a claim: lemmas on the way to its theorem; each states its own conditions. -/
import Derived.Test.YtbkpgpkeecnjpaaVp
namespace Go.Proofs.Ytbkpgpkeecnjpaa
open Sym Go.RowKit
noncomputable section
set_option maxRecDepth 100000
set_option maxHeartbeats 4000000



theorem rd_bad {s : List UInt8} {e : Int} (h : F.rE s = e) (he : e ≠ 0) : (SV.tup [.agg [.int .i64 0, .int .i64 0, .own 0 0], .c (.int .i64 0), .c (.int .i64 e)] : SV) = .tup [.agg [.int .i64 (F.oR s), .int .i64 (F.oT s), .own 0 (List.length (F.oL s))], .c (.int .i64 (F.oZ s)), .c (.int .i64 (F.rE s))] ∧ ([.own 2 [] 53] : Heap cod) = [.own 2 (F.oL s) 53] := by
  have h0 : ¬ F.rE s = 0 := by rw [h]; exact he
  unfold F.oR F.oT F.oZ F.oL
  rw [if_neg h0, if_neg h0, if_neg h0, if_neg h0, h]
  exact ⟨rfl, rfl⟩
theorem rd_ok {s : List UInt8} (h : F.rE s = 0) : (SV.tup [.agg [.int .i64 (F.rR s), .int .i64 (F.rT s), .own 0 (F.rN s).toNat], .c (.int .i64 (F.rZ s)), .c (.int .i64 0)] : SV) = .tup [.agg [.int .i64 (F.oR s), .int .i64 (F.oT s), .own 0 (List.length (F.oL s))], .c (.int .i64 (F.oZ s)), .c (.int .i64 (F.rE s))] ∧ ([.own 2 (F.gL F.gB s (F.rR s) (F.rT s) (F.rN s).toNat) 53] : Heap cod) = [.own 2 (F.oL s) 53] := by
  unfold F.oR F.oT F.oZ F.oL
  rw [if_pos h, if_pos h, if_pos h, if_pos h, h, gL_len]
  exact ⟨rfl, rfl⟩
theorem sl_len (s : List UInt8) (a n : Nat) : (F.sl s a n).length ≤ n := by
  unfold F.sl
  rw [List.length_take]
  omega
theorem num_sl (s : List UInt8) (a : Nat) {n : Nat} (h : n ≤ 8) : 0 ≤ F.num (F.sl s a n) ∧ F.num (F.sl s a n) < 256 ^ n := by
  have b := num_bd (F.sl s a n)
  have := Nat.pow_le_pow_right (show 0 < 256 by decide) (sl_len s a n)
  have e1 : ((256 ^ (F.sl s a n).length : Nat) : Int) = 256 ^ (F.sl s a n).length := by simp
  have e2 : ((256 ^ n : Nat) : Int) = 256 ^ n := by simp
  omega
theorem num8 (s : List UInt8) (a : Nat) : 0 ≤ F.num (F.sl s a 8) ∧ F.num (F.sl s a 8) < 18446744073709551616 := by
  have := num_sl s a (n := 8) (by decide)
  rw [show (256 : Int) ^ 8 = 18446744073709551616 by decide] at this
  exact this
theorem num4 (s : List UInt8) (a : Nat) : 0 ≤ F.num (F.sl s a 4) ∧ F.num (F.sl s a 4) < 4294967296 := by
  have := num_sl s a (n := 4) (by decide)
  rw [show (256 : Int) ^ 4 = 4294967296 by decide] at this
  exact this
theorem num2 (s : List UInt8) (a : Nat) : 0 ≤ F.num (F.sl s a 2) ∧ F.num (F.sl s a 2) < 65536 := by
  have := num_sl s a (n := 2) (by decide)
  rw [show (256 : Int) ^ 2 = 65536 by decide] at this
  exact this
theorem wsum_bd (s : List UInt8) : 0 ≤ F.wsum s ∧ F.wsum s < 65536 := by
  have a := Int.emod_nonneg (F.cb s s.length) (show (255 : Int) ≠ 0 by decide)
  have b := Int.emod_lt_of_pos (F.cb s s.length) (show (0 : Int) < 255 by decide)
  have c := Int.emod_nonneg (F.ca s s.length) (show (255 : Int) ≠ 0 by decide)
  have d := Int.emod_lt_of_pos (F.ca s s.length) (show (0 : Int) < 255 by decide)
  unfold F.wsum
  omega
theorem rR_eq {s : List UInt8} (h : 2 < s.length) : ((s.getD 2 0).toNat : Int) = F.rR s := by
  have e : F.sl s 2 1 = [s.getD 2 0] := by
    unfold F.sl
    rw [List.drop_eq_getElem_cons h, List.getD_eq_getElem?_getD, List.getElem?_eq_getElem h]
    rfl
  rw [F.rR, e, num_eq, numF_one]
theorem cut_sl (s : List UInt8) {i j : Int} {a n : Nat} (h1 : i = a) (h2 : j = i + n) : List.take (Int.toNat j - Int.toNat i) (List.drop (Int.toNat i) s) = F.sl s a n := by
  subst h1
  subst h2
  unfold F.sl
  rw [show Int.toNat ((a : Int) + n) - Int.toNat (a : Int) = n by omega, Int.toNat_natCast]


def cuts_wdec : Cuts := [(100002, [2, 5, 0], 9), (100004, [2, 5, 0], 9), (16, [2, 5, 9, 0, 8, 10], 5)]
def cuts_wdec_r2 : Cuts := [(100004, [2, 5, 0], 9), (16, [2, 5, 9, 0, 8, 10], 5)]
def cuts_wdec_r2b : Cuts := [(100004, [2, 5, 0], 9), (16, [2, 5, 9, 0, 8, 10], 5)]
def cuts_wdec_r4 : Cuts := [(100002, [2, 5, 0], 9), (16, [2, 5, 9, 0, 8, 10], 5)]

theorem wdec_t0 (s : List UInt8) : symF C_tofx cuts_wdec Try.f21.results.toList 0 400 [.code (codeOf Try.f21)] ⟨argsS Try.f21 [.c (.str s)], ([] : Heap cod)⟩ =
.ret (.cut (regAt Try.f21 2) ⟨tmG 151 [(0, .c (.str s)), (1, .c (.ptr 0 0 0)), (2, .c (.ptr 1 0 0))], [.blk [.int .i64 0, .int .i64 0, .nil] 24, .blk [.int .i64 0, .int .i64 0, .nil] 24]⟩) := by kernel_rfl


noncomputable def st_wdec_r2 (s : List UInt8)  : St cod := ⟨tmG 151 [(0, .c (.str s)), (1, .c (.ptr 0 0 0)), (2, .c (.ptr 1 0 0))], [.blk [.int .i64 0, .int .i64 0, .nil] 24, .blk [.int .i64 0, .int .i64 0, .nil] 24]⟩


noncomputable def st_wdec_r2b (s : List UInt8)  : St cod := ⟨tmG 151 [(0, .c (.str s)), (1, .c (.ptr 0 0 0)), (2, .c (.ptr 1 0 0))], ([.blk [.int .i64 0, .int .i64 0, .nil] 24, .blk [.int .i64 0, .int .i64 0, .own 2 0] 24, .own 2 [] 53] : Heap cod)⟩


theorem wdec_tr2b (s : List UInt8)  : symF C_tofx cuts_wdec_r2b Try.f21.results.toList 0 400 (regAt Try.f21 2) (st_wdec_r2b s ) =
 cond (decide (0 < Int.ofNat (List.length s))) (
 .need (((0 : Int) ≤ 0 ∧ (0 : Int) < Int.ofNat (List.length s))) (
 cond (!decide (Int.ofNat (UInt8.toNat (List.getD s (Int.toNat 0) 0)) = 83)) (
  .ret (.fin (.tup [.agg [.int .i64 0, .int .i64 0, .own 0 0], .c (.int .i64 0), .c (.int .i64 3)]) [.own 2 [] 53])) (
  cond (decide (1 < Int.ofNat (List.length s))) (
   .need (((0 : Int) ≤ 1 ∧ (1 : Int) < Int.ofNat (List.length s))) (
   cond (!decide (Int.ofNat (UInt8.toNat (List.getD s (Int.toNat 1) 0)) = 87)) (
    .ret (.fin (.tup [.agg [.int .i64 0, .int .i64 0, .own 0 0], .c (.int .i64 0), .c (.int .i64 3)]) [.own 2 [] 53])) (
    .ret (.cut (regAt Try.f21 4) ⟨tmG 151 [(0, .c (.str s)), (1, .c (.ptr 0 0 0)), (2, .c (.ptr 1 0 0))], [.blk [.int .i64 0, .int .i64 0, .nil] 24, .blk [.int .i64 0, .int .i64 0, .own 2 0] 24, .own 2 [] 53]⟩)))) (
   .ret (.cut (regAt Try.f21 4) ⟨tmG 151 [(0, .c (.str s)), (1, .c (.ptr 0 0 0)), (2, .c (.ptr 1 0 0))], [.blk [.int .i64 0, .int .i64 0, .nil] 24, .blk [.int .i64 0, .int .i64 0, .own 2 0] 24, .own 2 [] 53]⟩))))) (
 cond (decide (1 < Int.ofNat (List.length s))) (
  .need (((0 : Int) ≤ 1 ∧ (1 : Int) < Int.ofNat (List.length s))) (
  cond (!decide (Int.ofNat (UInt8.toNat (List.getD s (Int.toNat 1) 0)) = 87)) (
   .ret (.fin (.tup [.agg [.int .i64 0, .int .i64 0, .own 0 0], .c (.int .i64 0), .c (.int .i64 3)]) [.own 2 [] 53])) (
   .ret (.cut (regAt Try.f21 4) ⟨tmG 151 [(0, .c (.str s)), (1, .c (.ptr 0 0 0)), (2, .c (.ptr 1 0 0))], [.blk [.int .i64 0, .int .i64 0, .nil] 24, .blk [.int .i64 0, .int .i64 0, .own 2 0] 24, .own 2 [] 53]⟩)))) (
  .ret (.cut (regAt Try.f21 4) ⟨tmG 151 [(0, .c (.str s)), (1, .c (.ptr 0 0 0)), (2, .c (.ptr 1 0 0))], [.blk [.int .i64 0, .int .i64 0, .nil] 24, .blk [.int .i64 0, .int .i64 0, .own 2 0] 24, .own 2 [] 53]⟩))) := by kernel_rfl


noncomputable def st_wdec_r4 (s : List UInt8)  : St cod := ⟨tmG 151 [(0, .c (.str s)), (1, .c (.ptr 0 0 0)), (2, .c (.ptr 1 0 0))], [.blk [.int .i64 0, .int .i64 0, .nil] 24, .blk [.int .i64 0, .int .i64 0, .own 2 0] 24, .own 2 [] 53]⟩


theorem wdec_tr4 (s : List UInt8)  : symF C_tofx cuts_wdec_r4 Try.f21.results.toList 0 400 (regAt Try.f21 4) (st_wdec_r4 s ) =
 cond (decide (Int.ofNat (List.length s) < 9)) (
 .ret (.fin (.tup [.agg [.int .i64 0, .int .i64 0, .own 0 0], .c (.int .i64 0), .c (.int .i64 8)]) [.own 2 [] 53])) (
 .need (((0 : Int) ≤ 3 ∧ ((3 : Int) ≤ 7 ∧ (7 : Int) ≤ Int.ofNat (List.length s)))) (
 .need (List.length (List.take (Int.toNat 7 - Int.toNat 3) (List.drop (Int.toNat 3) s)) ≤ 8) (
 .need (((0 : Int) ≤ 7 ∧ ((7 : Int) ≤ 9 ∧ (9 : Int) ≤ Int.ofNat (List.length s)))) (
 .need (List.length (List.take (Int.toNat 9 - Int.toNat 7) (List.drop (Int.toNat 7) s)) ≤ 8) (
 cond (decide (200000 < F.num (List.take (Int.toNat 7 - Int.toNat 3) (List.drop (Int.toNat 3) s)))) (
  .ret (.fin (.tup [.agg [.int .i64 0, .int .i64 0, .own 0 0], .c (.int .i64 0), .c (.int .i64 3)]) [.own 2 [] 53])) (
  cond (decide (32 < F.num (List.take (Int.toNat 9 - Int.toNat 7) (List.drop (Int.toNat 7) s)))) (
   .ret (.fin (.tup [.agg [.int .i64 0, .int .i64 0, .own 0 0], .c (.int .i64 0), .c (.int .i64 3)]) [.own 2 [] 53])) (
   .need (Sym.i64ok (F.num (List.take (Int.toNat 9 - Int.toNat 7) (List.drop (Int.toNat 7) s)))) (
   .need (Sym.i64ok (16 * F.num (List.take (Int.toNat 9 - Int.toNat 7) (List.drop (Int.toNat 7) s)))) (
   .need (Sym.i64ok (11 + 16 * F.num (List.take (Int.toNat 9 - Int.toNat 7) (List.drop (Int.toNat 7) s)))) (
   cond (decide (Int.ofNat (List.length s) < 11 + 16 * F.num (List.take (Int.toNat 9 - Int.toNat 7) (List.drop (Int.toNat 7) s)))) (
    .ret (.fin (.tup [.agg [.int .i64 0, .int .i64 0, .own 0 0], .c (.int .i64 0), .c (.int .i64 8)]) [.own 2 [] 53])) (
    .need (Sym.i64ok (11 + 16 * F.num (List.take (Int.toNat 9 - Int.toNat 7) (List.drop (Int.toNat 7) s)) - 2)) (
    .need (((0 : Int) ≤ 11 + 16 * F.num (List.take (Int.toNat 9 - Int.toNat 7) (List.drop (Int.toNat 7) s)) - 2 ∧ (11 + 16 * F.num (List.take (Int.toNat 9 - Int.toNat 7) (List.drop (Int.toNat 7) s)) - 2 ≤   11 + 16 * F.num (List.take (Int.toNat 9 - Int.toNat 7) (List.drop (Int.toNat 7) s)) ∧ 11 + 16 * F.num (List.take (Int.toNat 9 - Int.toNat 7) (List.drop (Int.toNat 7) s)) ≤ Int.ofNat (List.length s)))) (
    .need (List.length     (List.take       (Int.toNat (11 + 16 * F.num (List.take (Int.toNat 9 - Int.toNat 7) (List.drop (Int.toNat 7) s))) -         Int.toNat (11 + 16 * F.num (List.take (Int.toNat 9 - Int.toNat 7) (List.drop (Int.toNat 7) s)) - 2))       (List.drop (Int.toNat (11 + 16 * F.num (List.take (Int.toNat 9 - Int.toNat 7) (List.drop (Int.toNat 7) s)) - 2))         s)) ≤   8) (
    .need (Sym.i64ok (11 + 16 * F.num (List.take (Int.toNat 9 - Int.toNat 7) (List.drop (Int.toNat 7) s)) - 2)) (
    .need (((0 : Int) ≤ 11 + 16 * F.num (List.take (Int.toNat 9 - Int.toNat 7) (List.drop (Int.toNat 7) s)) - 2 ∧ 11 + 16 * F.num (List.take (Int.toNat 9 - Int.toNat 7) (List.drop (Int.toNat 7) s)) - 2 ≤ Int.ofNat (List.length s))) (
    .need (List.length     (List.take (Int.toNat (11 + 16 * F.num (List.take (Int.toNat 9 - Int.toNat 7) (List.drop (Int.toNat 7) s)) - 2))       s) ≤   1000000) (
    cond (!decide     (F.num         (List.take           (Int.toNat (11 + 16 * F.num (List.take (Int.toNat 9 - Int.toNat 7) (List.drop (Int.toNat 7) s))) -             Int.toNat (11 + 16 * F.num (List.take (Int.toNat 9 - Int.toNat 7) (List.drop (Int.toNat 7) s)) - 2))           (List.drop             (Int.toNat (11 + 16 * F.num (List.take (Int.toNat 9 - Int.toNat 7) (List.drop (Int.toNat 7) s)) - 2)) s)) =       IntKind.wrap IntKind.u64         (F.wsum           (List.take             (Int.toNat (11 + 16 * F.num (List.take (Int.toNat 9 - Int.toNat 7) (List.drop (Int.toNat 7) s)) - 2)) s)))) (
     .ret (.fin (.tup [.agg [.int .i64 0, .int .i64 0, .own 0 0], .c (.int .i64 0), .c (.int .i64 13)]) [.own 2 [] 53])) (
     .need (((0 : Int) ≤ 2 ∧ (2 : Int) < Int.ofNat (List.length s))) (
     .need (Sym.i64ok (Int.ofNat (UInt8.toNat (List.getD s (Int.toNat 2) 0)))) (
     .need (Sym.i64ok (F.num (List.take (Int.toNat 7 - Int.toNat 3) (List.drop (Int.toNat 3) s)))) (
     .ret (.cut (cutAt Try.f21 16) ⟨tmG 146 [(0, .c (.str s)), (1, .c (.ptr 0 0 0)), (2, .c (.ptr 1 0 0)), (2, .c (.int .i64 (11 + 16 * F.num (List.take (Int.toNat 9 - Int.toNat 7) (List.drop (Int.toNat 7) s))))), (0, .c (.ptr 3 0 0)), (0, .c (.int .i64 9))], [.blk [.int .i64 0, .int .i64 0, .nil] 24, .blk [.int .i64 0, .int .i64 0, .own 2 0] 24, .own 2 [] 53, .blk [.int .i64 (Int.ofNat (UInt8.toNat (List.getD s (Int.toNat 2) 0))), .int .i64 (F.num (List.take (Int.toNat 7 - Int.toNat 3) (List.drop (Int.toNat 3) s))), .nil] 24]⟩)))))))))))))))))))))) := by kernel_rfl


noncomputable def st_wdec_16a (s : List UInt8)  : St cod := ⟨tmG 146 [(0, .c (.str s)), (1, .c (.ptr 0 0 0)), (2, .c (.ptr 1 0 0)), (2, .c (.int .i64 (11 + 16 * F.num (List.take (Int.toNat 9 - Int.toNat 7) (List.drop (Int.toNat 7) s))))), (0, .c (.ptr 3 0 0)), (0, .c (.int .i64 9))], [.blk [.int .i64 0, .int .i64 0, .nil] 24, .blk [.int .i64 0, .int .i64 0, .own 2 0] 24, .own 2 [] 53, .blk [.int .i64 (Int.ofNat (UInt8.toNat (List.getD s (Int.toNat 2) 0))), .int .i64 (F.num (List.take (Int.toNat 7 - Int.toNat 3) (List.drop (Int.toNat 3) s))), .nil] 24]⟩


noncomputable def st_wdec_16 (s : List UInt8) (r t z i : Int) (ps : List (Int × Int × Int × Int × Int × Int)) (q : Nat) : St cod := ⟨tmG 146 [(0, .c (.str s)), (1, .c (.ptr 0 0 0)), (2, .c (.ptr 1 0 0)), (2, .c (.int .i64 z)), (0, .c (.ptr 3 0 0)), (0, .c (.int .i64 i))], ([.blk [.int .i64 0, .int .i64 0, .nil] 24, .blk [.int .i64 0, .int .i64 0, .own 2 0] 24, .own 2 [] 53, .blk [.int .i64 r, .int .i64 t, .own 4 q] 24, .own 2 ps 53] : Heap cod)⟩


theorem wdec_t16 (s : List UInt8) (r t z i : Int) (ps : List (Int × Int × Int × Int × Int × Int)) (q : Nat) : symF C_tofx cuts_wdec Try.f21.results.toList 0 400 (cutAt Try.f21 16) (st_wdec_16 s r t z i ps q) =
.need (Sym.i64ok (z - 2)) (
 cond (decide (i < z - 2)) (
 .need (Sym.i64ok (i + 8)) (
 .need (((0 : Int) ≤ i ∧ (i ≤ i + 8 ∧ i + 8 ≤ Int.ofNat (List.length s)))) (
 .need (List.length (List.take (Int.toNat (i + 8) - Int.toNat i) (List.drop (Int.toNat i) s)) ≤ 8) (
 .need (((0 : Int) ≤ F.num (List.take (Int.toNat (i + 8) - Int.toNat i) (List.drop (Int.toNat i) s)) ∧ F.num (List.take (Int.toNat (i + 8) - Int.toNat i) (List.drop (Int.toNat i) s)) < 18446744073709551616)) (
 cond (!decide (F.tofC (F.num (List.take (Int.toNat (i + 8) - Int.toNat i) (List.drop (Int.toNat i) s))) = 0)) (
  .ret (.fin (.tup [.agg [.int .i64 0, .int .i64 0, .own 0 0], .c (.int .i64 0), .c (.int .i64 3)]) [.own 2 [] 53])) (
  .need (Sym.i64ok (i + 8)) (
  .need (Sym.i64ok (i + 10)) (
  .need (((0 : Int) ≤ i + 8 ∧ (i + 8 ≤ i + 10 ∧ i + 10 ≤ Int.ofNat (List.length s)))) (
  .need (List.length (List.take (Int.toNat (i + 10) - Int.toNat (i + 8)) (List.drop (Int.toNat (i + 8)) s)) ≤ 8) (
  .need (Sym.i64ok (F.num (List.take (Int.toNat (i + 10) - Int.toNat (i + 8)) (List.drop (Int.toNat (i + 8)) s)))) (
  .need (Sym.i64ok (i + 10)) (
  .need (Sym.i64ok (i + 14)) (
  .need (((0 : Int) ≤ i + 10 ∧ (i + 10 ≤ i + 14 ∧ i + 14 ≤ Int.ofNat (List.length s)))) (
  .need (List.length (List.take (Int.toNat (i + 14) - Int.toNat (i + 10)) (List.drop (Int.toNat (i + 10)) s)) ≤ 8) (
  .need (Sym.i64ok (F.num (List.take (Int.toNat (i + 14) - Int.toNat (i + 10)) (List.drop (Int.toNat (i + 10)) s)))) (
  .need (Sym.i64ok (i + 14)) (
  .need (Sym.i64ok (i + 16)) (
  .need (((0 : Int) ≤ i + 14 ∧ (i + 14 ≤ i + 16 ∧ i + 16 ≤ Int.ofNat (List.length s)))) (
  .need (List.length (List.take (Int.toNat (i + 16) - Int.toNat (i + 14)) (List.drop (Int.toNat (i + 14)) s)) ≤ 8) (
  .need (Sym.i64ok (F.num (List.take (Int.toNat (i + 16) - Int.toNat (i + 14)) (List.drop (Int.toNat (i + 14)) s)))) (
  .need (Sym.i64ok (F.num (List.take (Int.toNat (i + 16) - Int.toNat (i + 14)) (List.drop (Int.toNat (i + 14)) s)) - 1)) (
  .need (1 = 1) (
  .need (q + 1 ≤ 1000000) (
  .need (Sym.i64ok (i + 16)) (
  .ret (.cut (cutAt Try.f21 16) ⟨tmG 146 [(0, .c (.str s)), (1, .c (.ptr 0 0 0)), (2, .c (.ptr 1 0 0)), (2, .c (.int .i64 z)), (0, .c (.ptr 3 0 0)), (0, .c (.int .i64 (i + 16)))], [.blk [.int .i64 0, .int .i64 0, .nil] 24, .blk [.int .i64 0, .int .i64 0, .own 2 0] 24, .own 2 [] 53, .blk [.int .i64 r, .int .i64 t, .own 4 (q + 1)] 24, .own 2 (ps ++ ([(r, t, F.tofA (F.num (List.take (Int.toNat (i + 8) - Int.toNat i) (List.drop (Int.toNat i) s))),     F.num (List.take (Int.toNat (i + 10) - Int.toNat (i + 8)) (List.drop (Int.toNat (i + 8)) s)),     F.num (List.take (Int.toNat (i + 14) - Int.toNat (i + 10)) (List.drop (Int.toNat (i + 10)) s)),     F.num (List.take (Int.toNat (i + 16) - Int.toNat (i + 14)) (List.drop (Int.toNat (i + 14)) s)) - 1)])) 53]⟩)))))))))))))))))))))))))) (
 .need ((0 = 0 ∧ q = List.length ps)) (
 cond (!decide (F.chk r t ps = 0)) (
  .ret (.fin (.tup [.agg [.int .i64 0, .int .i64 0, .own 0 0], .c (.int .i64 0), .c (.int .i64 3)]) [.own 2 [] 53])) (
  .need (((0 : Int) ≤ z ∧ z ≤ Int.ofNat (List.length s))) (
  cond (!decide (F.encS r t ps = List.take (Int.toNat z) s)) (
   .ret (.fin (.tup [.agg [.int .i64 0, .int .i64 0, .own 0 0], .c (.int .i64 0), .c (.int .i64 3)]) [.own 2 [] 53])) (
   .ret (.fin (.tup [.agg [.int .i64 r, .int .i64 t, .own 0 (q)], .c (.int .i64 z), .c (.int .i64 0)]) [.own 2 ps 53]))))))) := by kernel_rfl



theorem wdec_run (s : List UInt8) (b0 : Base) (hb : b0.n = 0)  : Sym.Runs Try.prog b0 [.code (codeOf Try.f21)] ⟨argsS Try.f21 [.c (.str s)], ([] : Heap cod)⟩ (Sym.Ends Try.prog Try.f21 0 (.tup [.agg [.int .i64 (F.oR s), .int .i64 (F.oT s), .own 0 (List.length (F.oL s))], .c (.int .i64 (F.oZ s)), .c (.int .i64 (F.rE s))]) [.own 2 (F.oL s) 53]) := by
  have key : ¬ F.hd s → ¬ s.length < 9 → ¬ (200000 < F.rT s ∨ 32 < F.rN s) → ¬ (s.length : Int) < F.rZ s → ¬ F.wsum (s.take (F.rZ s - 2).toNat) ≠ F.num (F.sl s (F.rZ s - 2).toNat 2) → ∀ (m k : Nat), k + m = (F.rN s).toNat →
      Sym.Runs Try.prog b0 (cutAt Try.f21 16) (st_wdec_16 s (F.rR s) (F.rT s) (F.rZ s) (9 + 16 * (k : Int)) (F.gL F.gA s (F.rR s) (F.rT s) k) k) (Sym.Ends Try.prog Try.f21 0 (.tup [.agg [.int .i64 (F.oR s), .int .i64 (F.oT s), .own 0 (List.length (F.oL s))], .c (.int .i64 (F.oZ s)), .c (.int .i64 (F.rE s))]) [.own 2 (F.oL s) 53]) := by
    intro g1 g2 g3 g4 g5 m
    have hN := num2 s 7
    have hN : 0 ≤ F.rN s := hN.1
    have hZ : F.rZ s = 11 + 16 * F.rN s := rfl
    induction m with
    | zero =>
      intro k hk
      refine Runs.go (cfg := C_tofx) L_tofx_ok mixed cuts_wdec 400 hb (wdec_t16 s _ _ _ _ _ _) ?_
      have ek : k = (F.rN s).toNat := by omega
      simp only [T.wp, T.wp_cond, Aft, Int.ofNat_eq_natCast, decide_eq_true_eq, and_true, true_and, Nat.zero_add, Bool.not_eq_true', decide_eq_false_iff_not]
      refine ⟨by unfold Sym.i64ok; omega, ite_no (by omega) ⟨(gL_len ..).symm, ?_⟩⟩
      subst ek
      by_cases c1 : F.chk (F.rR s) (F.rT s) (F.gL F.gA s (F.rR s) (F.rT s) (F.rN s).toNat) = 0
      · refine ite_no (fun q => q c1) ⟨⟨by omega, by omega⟩, ?_⟩
        by_cases c2 : F.encS (F.rR s) (F.rT s) (F.gL F.gA s (F.rR s) (F.rT s) (F.rN s).toNat) = s.take (F.rZ s).toNat
        · have fa : F.fine F.gA s := by
            refine ⟨c1, ?_⟩
            rw [F.encS, if_pos c1] at c2
            exact c2
          obtain ⟨fb, el⟩ := fine_AB (by omega) fa
          rw [el] at c2 ⊢
          exact ite_no (fun q => q c2) (rd_ok (rE_ok g1 g2 g3 g4 g5 fb))
        · refine ite_yes c2 (rd_bad (rE_no g1 g2 g3 g4 g5 fun fb => ?_) (by decide))
          have fa := fine_BA (by omega) fb
          refine c2 ?_
          rw [F.encS, if_pos c1]
          exact fa.2
      · exact ite_yes c1 (rd_bad (rE_no g1 g2 g3 g4 g5 fun fb => c1 (fine_BA (by omega) fb).1) (by decide))
    | succ m ih =>
      intro k hk
      refine Runs.go (cfg := C_tofx) L_tofx_ok mixed cuts_wdec 400 hb (wdec_t16 s _ _ _ _ _ _) ?_
      have nx := ih (k + 1) (by omega)
      rw [show (9 : Int) + 16 * ((k + 1 : Nat) : Int) = 9 + 16 * (k : Int) + 16 by omega] at nx
      have e1 := cut_sl s (i := 9 + 16 * (k : Int)) (j := 9 + 16 * (k : Int) + 8) (a := 9 + 16 * k) (n := 8) (by omega) (by omega)
      have e2 := cut_sl s (i := 9 + 16 * (k : Int) + 8) (j := 9 + 16 * (k : Int) + 10) (a := 17 + 16 * k) (n := 2) (by omega) (by omega)
      have e3 := cut_sl s (i := 9 + 16 * (k : Int) + 10) (j := 9 + 16 * (k : Int) + 14) (a := 19 + 16 * k) (n := 4) (by omega) (by omega)
      have e4 := cut_sl s (i := 9 + 16 * (k : Int) + 14) (j := 9 + 16 * (k : Int) + 16) (a := 23 + 16 * k) (n := 2) (by omega) (by omega)
      have l1 := sl_len s (9 + 16 * k) 8
      have l2 := sl_len s (17 + 16 * k) 2
      have l3 := sl_len s (19 + 16 * k) 4
      have l4 := sl_len s (23 + 16 * k) 2
      have n1 := num8 s (9 + 16 * k)
      have n2 := num2 s (17 + 16 * k)
      have n3 := num4 s (19 + 16 * k)
      have n4 := num2 s (23 + 16 * k)
      simp only [T.wp, T.wp_cond, Aft, Int.ofNat_eq_natCast, decide_eq_true_eq, and_true, true_and, Nat.zero_add, Bool.not_eq_true', decide_eq_false_iff_not, e1, e2, e3, e4]
      refine ⟨by unfold Sym.i64ok; omega, ite_yes (by omega) ⟨by unfold Sym.i64ok; omega, ⟨by omega, by omega, by omega⟩, l1, ⟨n1.1, by omega⟩, ?_⟩⟩
      by_cases c : F.tofC (F.num (F.sl s (9 + 16 * k) 8)) = 0
      · refine ite_no (fun q => q c) ⟨by unfold Sym.i64ok; omega, by unfold Sym.i64ok; omega, ⟨by omega, by omega, by omega⟩, by omega, by unfold Sym.i64ok; omega, by unfold Sym.i64ok; omega, by unfold Sym.i64ok; omega, ⟨by omega, by omega, by omega⟩, by omega, by unfold Sym.i64ok; omega, by unfold Sym.i64ok; omega, by unfold Sym.i64ok; omega, ⟨by omega, by omega, by omega⟩, by omega, by unfold Sym.i64ok; omega, by unfold Sym.i64ok; omega, by omega, by unfold Sym.i64ok; omega, ?_⟩
        exact nx
      · refine ite_yes c (rd_bad (rE_no g1 g2 g3 g4 g5 fun fb => ?_) (by decide))
        obtain ⟨n, hn, he⟩ := fine_word (by omega) fb (k := k) (by omega)
        refine c ?_
        have he : F.num (F.sl s (9 + 16 * k) 8) = _ := he
        rw [he, (gA_dbl hn).2]
  have main : ¬ F.hd s → Sym.Runs Try.prog b0 (regAt Try.f21 4) (st_wdec_r4 s) (Sym.Ends Try.prog Try.f21 0 (.tup [.agg [.int .i64 (F.oR s), .int .i64 (F.oT s), .own 0 (List.length (F.oL s))], .c (.int .i64 (F.oZ s)), .c (.int .i64 (F.rE s))]) [.own 2 (F.oL s) 53]) := by
    intro g1
    refine Runs.go (cfg := C_tofx) L_tofx_ok mixed cuts_wdec_r4 400 hb (wdec_tr4 s) ?_
    have e1 := cut_sl s (i := 3) (j := 7) (a := 3) (n := 4) rfl rfl
    have e2 := cut_sl s (i := 7) (j := 9) (a := 7) (n := 2) rfl rfl
    have t1 : F.num (F.sl s 3 4) = F.rT s := rfl
    have t2 : F.num (F.sl s 7 2) = F.rN s := rfl
    have t3 : 11 + 16 * F.rN s = F.rZ s := rfl
    have l1 := sl_len s 3 4
    have l2 := sl_len s 7 2
    have n1 : 0 ≤ F.rT s ∧ F.rT s < 4294967296 := num4 s 3
    have n2 : 0 ≤ F.rN s ∧ F.rN s < 65536 := num2 s 7
    simp only [T.wp, T.wp_cond, Aft, Int.ofNat_eq_natCast, decide_eq_true_eq, and_true, true_and, Nat.zero_add, Bool.not_eq_true', decide_eq_false_iff_not, e1, e2, t1, t2, t3]
    by_cases g2 : s.length < 9
    · exact ite_yes (by omega) (rd_bad (rE_short g1 g2) (by decide))
    refine ite_no (by omega) ⟨⟨by decide, by decide, by omega⟩, by omega, ⟨by decide, by decide, by omega⟩, by omega, ?_⟩
    by_cases g3 : 200000 < F.rT s ∨ 32 < F.rN s
    · have hbad := rd_bad (rE_big g1 g2 g3) (by decide)
      by_cases q : 200000 < F.rT s
      · exact ite_yes q hbad
      · exact ite_no q (ite_yes (by omega) hbad)
    refine ite_no (fun q => g3 (.inl q)) (ite_no (fun q => g3 (.inr q)) ⟨by unfold Sym.i64ok; omega, by unfold Sym.i64ok; omega, by unfold Sym.i64ok; omega, ?_⟩)
    by_cases g4 : (s.length : Int) < F.rZ s
    · exact ite_yes g4 (rd_bad (rE_part g1 g2 g3 g4) (by decide))
    have e3 := cut_sl s (i := F.rZ s - 2) (j := F.rZ s) (a := (F.rZ s - 2).toNat) (n := 2) (by omega) (by omega)
    have l3 := sl_len s (F.rZ s - 2).toNat 2
    have n3 := num2 s (F.rZ s - 2).toNat
    simp only [e3]
    have lw : (List.take (F.rZ s - 2).toNat s).length ≤ 1000000 := by rw [List.length_take]; omega
    have w0 := wsum_bd (List.take (F.rZ s - 2).toNat s)
    have ew : IntKind.wrap .u64 (F.wsum (List.take (F.rZ s - 2).toNat s)) = F.wsum (List.take (F.rZ s - 2).toNat s) := by
      rw [IntKind.wrap_u64]
      omega
    rw [ew]
    refine ite_no g4 ⟨by unfold Sym.i64ok; omega, ⟨by omega, by omega, by omega⟩, by omega, by unfold Sym.i64ok; omega, ⟨by omega, by omega⟩, lw, ?_⟩
    by_cases g5 : F.wsum (s.take (F.rZ s - 2).toNat) ≠ F.num (F.sl s (F.rZ s - 2).toNat 2)
    · exact ite_yes (fun q => g5 q.symm) (rd_bad (rE_sum g1 g2 g3 g4 g5) (by decide))
    have g6 : F.wsum (s.take (F.rZ s - 2).toNat) = F.num (F.sl s (F.rZ s - 2).toNat 2) := Decidable.not_not.1 g5
    have hc := (s.getD (Int.toNat 2) 0).toNat_lt
    have er : ((s.getD (Int.toNat 2) 0).toNat : Int) = F.rR s := rR_eq (by omega)
    refine ite_no (fun q => q g6.symm) ⟨⟨by decide, by omega⟩, by unfold Sym.i64ok; omega, by unfold Sym.i64ok; omega, ?_⟩
    rw [er]
    have k0 := key g1 g2 g3 g4 g5 (F.rN s).toNat 0 (by omega)
    have e9 : (9 : Int) + 16 * ((0 : Nat) : Int) = 9 := rfl
    rw [e9] at k0
    exact Runs.made 3 2 2 53 rfl rfl (st' := st_wdec_16 s (F.rR s) (F.rT s) (F.rZ s) 9 [] 0) rfl k0
  refine Runs.go (cfg := C_tofx) L_tofx_ok mixed cuts_wdec 400 hb (wdec_t0 s) ?_
  simp only [T.wp, T.wp_cond, Aft, Int.ofNat_eq_natCast, decide_eq_true_eq, and_true, true_and, Nat.zero_add, Bool.not_eq_true', decide_eq_false_iff_not]
  refine Runs.made 1 2 2 53 rfl rfl (st' := st_wdec_r2b s) rfl ?_
  refine Runs.go (cfg := C_tofx) L_tofx_ok mixed cuts_wdec_r2b 400 hb (wdec_tr2b s) ?_
  simp only [T.wp, T.wp_cond, Aft, Int.ofNat_eq_natCast, decide_eq_true_eq, and_true, true_and, Nat.zero_add, Bool.not_eq_true', decide_eq_false_iff_not]
  by_cases p0 : 0 < s.length
  · refine ite_yes (by omega) ⟨⟨by decide, by omega⟩, ?_⟩
    by_cases c0 : (s.getD 0 0).toNat = 83
    · refine ite_no (fun q => q (show ((s.getD 0 0).toNat : Int) = 83 by omega)) ?_
      by_cases p1 : 1 < s.length
      · refine ite_yes (by omega) ⟨⟨by decide, by omega⟩, ?_⟩
        by_cases c1 : (s.getD 1 0).toNat = 87
        · exact ite_no (fun q => q (show ((s.getD 1 0).toNat : Int) = 87 by omega)) (main (by unfold F.hd; omega))
        · exact ite_yes (show ¬ ((s.getD 1 0).toNat : Int) = 87 by omega) (rd_bad (rE_hd (by unfold F.hd; omega)) (by decide))
      · exact ite_no (by omega) (main (by unfold F.hd; omega))
    · exact ite_yes (show ¬ ((s.getD 0 0).toNat : Int) = 83 by omega) (rd_bad (rE_hd (by unfold F.hd; omega)) (by decide))
  · exact ite_no (by omega) (ite_no (by omega) (main (by unfold F.hd; omega)))



noncomputable def s_wdec : Summ cod := fun args H => match args, H with
  | [.c (.str s)], [] => .ret (.tup [.agg [.int .i64 (F.oR s), .int .i64 (F.oT s), .own 0 (List.length (F.oL s))], .c (.int .i64 (F.oZ s)), .c (.int .i64 (F.rE s))], [.own 2 (F.oL s) 53])
  | _, _ => .fail


theorem wdec_sound : Sound Try.prog cod 21 s_wdec := sound_runs (cfg := C_tofx) L_tofx_ok mixed Try.func21 rfl rfl _ fun args H r news hg b0 hb => by
  unfold s_wdec at hg
  split at hg
  · skip
    cases hg
    exact wdec_run _ b0 hb 
  · exact hg.elim

noncomputable def L_wdec : Sums cod := (21, .p s_wdec) :: L_tofx
noncomputable def C_wdec : Cfg cod := mkC L_wdec

theorem L_wdec_ok : Snd Try.prog cod L_wdec := .cons wdec_sound L_tofx_ok


end
end Go.Proofs.Ytbkpgpkeecnjpaa
