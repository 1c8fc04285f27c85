/- Part of a claim: lemmas on the way to its theorem; each states its own conditions. -/
import Derived.Test.YtbdhppceihcbnaaPp
import Derived.Test.YtbdhppceihcbnaaPm
namespace Go.Proofs.Ytbdhppceihcbnaa
open Sym Go.RowKit
noncomputable section
set_option maxRecDepth 100000
set_option maxHeartbeats 4000000



def opsI : List Item → Array Oper
  | .code (.region _ ops _) :: _ => ops
  | _ => #[]
def idI : List Item → Nat
  | .code (.region i _ _) :: _ => i
  | _ => 0


def cuts_mul64 : Cuts := []

theorem mul64_t0 (x n : Int) : symF C_rcut cuts_mul64 Try.f26.results.toList 0 400 [.code (codeOf Try.f26)] ⟨argsS Try.f26 [.c (.int .u64 x), .c (.int .u64 n)], ([] : Heap cod)⟩ =
.need ((0 : Int) ≤ 32) (
.need ((0 : Int) ≤ 32) (
.need ((0 : Int) ≤ 32) (
.need ((0 : Int) ≤ 32) (
.need ((0 : Int) ≤ 32) (
.ret (.fin (.tup [.c (.int .u64 (IntKind.wrap IntKind.u64   (IntKind.wrap IntKind.u64       (IntKind.wrap IntKind.u64 (Int.fdiv x (2 ^ min (Int.toNat 32) 64) * Int.fdiv n (2 ^ min (Int.toNat 32) 64)) +         Int.fdiv           (IntKind.wrap IntKind.u64             (IntKind.wrap IntKind.u64                 (Int.fdiv x (2 ^ min (Int.toNat 32) 64) * bits BinOp.and IntKind.u64 n 4294967295) +               Int.fdiv                 (IntKind.wrap IntKind.u64                   (bits BinOp.and IntKind.u64 x 4294967295 * bits BinOp.and IntKind.u64 n 4294967295))                 (2 ^ min (Int.toNat 32) 64)))           (2 ^ min (Int.toNat 32) 64)) +     Int.fdiv       (IntKind.wrap IntKind.u64         (bits BinOp.and IntKind.u64             (IntKind.wrap IntKind.u64               (IntKind.wrap IntKind.u64                   (Int.fdiv x (2 ^ min (Int.toNat 32) 64) * bits BinOp.and IntKind.u64 n 4294967295) +                 Int.fdiv                   (IntKind.wrap IntKind.u64                     (bits BinOp.and IntKind.u64 x 4294967295 * bits BinOp.and IntKind.u64 n 4294967295))                   (2 ^ min (Int.toNat 32) 64)))             4294967295 +           IntKind.wrap IntKind.u64 (bits BinOp.and IntKind.u64 x 4294967295 * Int.fdiv n (2 ^ min (Int.toNat 32) 64))))       (2 ^ min (Int.toNat 32) 64)))), .c (.int .u64 (IntKind.wrap IntKind.u64 (x * n)))]) [])))))) := by kernel_rfl



theorem mul64_run (x n : Int) (b0 : Base) (hb : b0.n = 0) (h0 : x = 1 ∧ 0 ≤ n ∧ n ≤ 60) : Sym.Runs Try.prog b0 [.code (codeOf Try.f26)] ⟨argsS Try.f26 [.c (.int .u64 x), .c (.int .u64 n)], ([] : Heap cod)⟩ (Sym.Ends Try.prog Try.f26 0 (.tup [.c (.int .u64 0), .c (.int .u64 n)]) []) := by
  refine Runs.go (cfg := C_rcut) L_rcut_ok mixed cuts_mul64 400 hb (mul64_t0 x n) ?_
  obtain ⟨rfl, hlo, hhi⟩ := h0
  have hN : n = 0 ∨ n = 1 ∨ n = 2 ∨ n = 3 ∨ n = 4 ∨ n = 5 ∨ n = 6 ∨ n = 7 ∨ n = 8 ∨ n = 9 ∨ n = 10 ∨ n = 11 ∨ n = 12 ∨ n = 13 ∨ n = 14 ∨ n = 15 ∨ n = 16 ∨ n = 17 ∨ n = 18 ∨ n = 19 ∨ n = 20 ∨ n = 21 ∨ n = 22 ∨ n = 23 ∨ n = 24 ∨ n = 25 ∨ n = 26 ∨ n = 27 ∨ n = 28 ∨ n = 29 ∨ n = 30 ∨ n = 31 ∨ n = 32 ∨ n = 33 ∨ n = 34 ∨ n = 35 ∨ n = 36 ∨ n = 37 ∨ n = 38 ∨ n = 39 ∨ n = 40 ∨ n = 41 ∨ n = 42 ∨ n = 43 ∨ n = 44 ∨ n = 45 ∨ n = 46 ∨ n = 47 ∨ n = 48 ∨ n = 49 ∨ n = 50 ∨ n = 51 ∨ n = 52 ∨ n = 53 ∨ n = 54 ∨ n = 55 ∨ n = 56 ∨ n = 57 ∨ n = 58 ∨ n = 59 ∨ n = 60 := by omega
  rcases hN with rfl | rfl | rfl | rfl | rfl | rfl | rfl | rfl | rfl | rfl | rfl | rfl | rfl | rfl | rfl | rfl | rfl | rfl | rfl | rfl | rfl | rfl | rfl | rfl | rfl | rfl | rfl | rfl | rfl | rfl | rfl | rfl | rfl | rfl | rfl | rfl | rfl | rfl | rfl | rfl | rfl | rfl | rfl | rfl | rfl | rfl | rfl | rfl | rfl | rfl | rfl | rfl | rfl | rfl | rfl | rfl | rfl | rfl | rfl | rfl | rfl <;> exact ⟨by decide, by decide, by decide, by decide, by decide, by kernel_rfl, by kernel_rfl⟩



noncomputable def s_mul64 : Summ cod := fun args H => match args, H with
  | [.c (.int .u64 x), .c (.int .u64 n)], [] => .need ((x = 1 ∧ 0 ≤ n ∧ n ≤ 60)) (.ret (.tup [.c (.int .u64 0), .c (.int .u64 n)], []))
  | _, _ => .fail


theorem mul64_sound : Sound Try.prog cod 26 s_mul64 := sound_runs (cfg := C_rcut) L_rcut_ok mixed Try.func26 rfl rfl _ fun args H r news hg b0 hb => by
  unfold s_mul64 at hg
  split at hg
  · skip
    simp only [T.gives, T.wp, Prod.mk.injEq] at hg
    obtain ⟨q0, rfl, rfl⟩ := hg
    exact mul64_run _ _ b0 hb (by assumption)
  · exact hg.elim

noncomputable def L_mul64 : Sums cod := (26, .p s_mul64) :: L_rcut
noncomputable def C_mul64 : Cfg cod := mkC L_mul64

theorem L_mul64_ok : Snd Try.prog cod L_mul64 := .cons mul64_sound L_rcut_ok



def cuts_mulu : Cuts := []

theorem mulu_t0 (x n : Int) : symF C_mul64 cuts_mulu Try.f19.results.toList 0 400 [.code (codeOf Try.f19)] ⟨argsS Try.f19 [.c (.int .u64 x), .c (.int .u64 n)], ([] : Heap cod)⟩ =
.need ((x = 1 ∧ ((0 : Int) ≤ n ∧ n ≤ 60))) (
.ret (.fin (.tup [.c (.int .u64 0), .c (.int .u64 n)]) [])) := by kernel_rfl



theorem mulu_run (x n : Int) (b0 : Base) (hb : b0.n = 0) (h0 : x = 1 ∧ 0 ≤ n ∧ n ≤ 60) : Sym.Runs Try.prog b0 [.code (codeOf Try.f19)] ⟨argsS Try.f19 [.c (.int .u64 x), .c (.int .u64 n)], ([] : Heap cod)⟩ (Sym.Ends Try.prog Try.f19 0 (.tup [.c (.int .u64 0), .c (.int .u64 n)]) []) := by
  refine Runs.go (cfg := C_mul64) L_mul64_ok mixed cuts_mulu 400 hb (mulu_t0 x n) ?_
  simp only [T.wp, T.wp_cond, Aft, Int.ofNat_eq_natCast, decide_eq_true_eq, and_true, true_and, Nat.zero_add, Bool.not_eq_true', decide_eq_false_iff_not]
  exact h0



noncomputable def s_mulu : Summ cod := fun args H => match args, H with
  | [.c (.int .u64 x), .c (.int .u64 n)], [] => .need ((x = 1 ∧ 0 ≤ n ∧ n ≤ 60)) (.ret (.tup [.c (.int .u64 0), .c (.int .u64 n)], []))
  | _, _ => .fail


theorem mulu_sound : Sound Try.prog cod 19 s_mulu := sound_runs (cfg := C_mul64) L_mul64_ok mixed Try.func19 rfl rfl _ fun args H r news hg b0 hb => by
  unfold s_mulu at hg
  split at hg
  · skip
    simp only [T.gives, T.wp, Prod.mk.injEq] at hg
    obtain ⟨q0, rfl, rfl⟩ := hg
    exact mulu_run _ _ b0 hb (by assumption)
  · exact hg.elim

noncomputable def L_mulu : Sums cod := (19, .p s_mulu) :: L_mul64
noncomputable def C_mulu : Cfg cod := mkC L_mulu

theorem L_mulu_ok : Snd Try.prog cod L_mulu := .cons mulu_sound L_mul64_ok



namespace F
def rep (b : List Int) (n : Int) : List Int := List.replicate n.toNat (b.getD 0 0)
end F
noncomputable def Q16 : Array Oper := opsI (regAt Try.f10 16)
def st_rep_x1 (b : List Int) (b_t : Bool) (n : Int) : St cod := ⟨tmG 23 [(0, .c (.slc 0 0 (List.length b) b_t)), (6, .c (.int .i64 n)), (0, .c (.int .i64 n)), (44, .c (.int .i64 n))], [.inp 9 b]⟩


def cuts_rep : Cuts := [(100016, [8, 7, 0], 1), (100017, [9, 8, 7, 0], 2), (18, [9, 8, 7, 10], 2)]
def cuts_rep_r16 : Cuts := [(100017, [9, 8, 7, 0], 2), (18, [9, 8, 7, 10], 2)]
def cuts_rep_r17 : Cuts := [(100016, [8, 7, 0], 1), (18, [9, 8, 7, 10], 2)]

theorem rep_t0 (b : List Int) (b_t : Bool) (n : Int) : symF C_mulu cuts_rep Try.f10.results.toList 1 400 [.code (codeOf Try.f10)] ⟨argsS Try.f10 [.c (.slc 0 0 (List.length b) b_t), .c (.int .i64 n)], ([.inp 9 b] : Heap cod)⟩ =
 cond (decide (n = 0)) (
 .ret (.fin (.c (.slc 1 0 0 true)) [.arr 9 [] 5])) (
 cond (decide (n < 0)) (
  .fail) (
  .need ((IntKind.wrap IntKind.u64 (Int.ofNat (List.length b)) = 1 ∧ ((0 : Int) ≤ IntKind.wrap IntKind.u64 n ∧ IntKind.wrap IntKind.u64 n ≤ 60))) (
  cond (decide (9223372036854775807 < IntKind.wrap IntKind.u64 n)) (
   .fail) (
   .need (i64ok (IntKind.wrap IntKind.u64 n)) (
   cond (decide (Int.ofNat (List.length b) = 0)) (
    .ret (.fin (.c (.slc 1 0 0 true)) [.arr 9 [] 5])) (
    cond (decide (8192 < IntKind.wrap IntKind.u64 n)) (
     .need (Int.ofNat (List.length b) ≠ 0) (
     .need (i64ok (Int.tdiv 8192 (Int.ofNat (List.length b)))) (
     .need (i64ok (Int.tdiv 8192 (Int.ofNat (List.length b)) * Int.ofNat (List.length b))) (
     cond (decide (Int.tdiv 8192 (Int.ofNat (List.length b)) * Int.ofNat (List.length b) = 0)) (
      .ret (.cut (regAt Try.f10 16) ⟨tmG 68 [(0, .c (.slc 0 0 (List.length b) b_t)), (6, .c (.int .i64 (IntKind.wrap IntKind.u64 n))), (0, .c (.int .i64 (Int.ofNat (List.length b))))], [.inp 9 b]⟩)) (
      .ret (.cut (regAt Try.f10 16) ⟨tmG 68 [(0, .c (.slc 0 0 (List.length b) b_t)), (6, .c (.int .i64 (IntKind.wrap IntKind.u64 n))), (0, .c (.int .i64 (Int.tdiv 8192 (Int.ofNat (List.length b)) * Int.ofNat (List.length b))))], [.inp 9 b]⟩)))))) (
     .ret (.cut (regAt Try.f10 16) ⟨tmG 68 [(0, .c (.slc 0 0 (List.length b) b_t)), (6, .c (.int .i64 (IntKind.wrap IntKind.u64 n))), (0, .c (.int .i64 (IntKind.wrap IntKind.u64 n)))], [.inp 9 b]⟩)))))))) := by kernel_rfl


noncomputable def st_rep_r16 (b : List Int) (b_t : Bool) (n : Int)  : St cod := ⟨tmG 68 [(0, .c (.slc 0 0 (List.length b) b_t)), (6, .c (.int .i64 n)), (0, .c (.int .i64 n))], [.inp 9 b]⟩


noncomputable def st_rep_r17 (b : List Int) (b_t : Bool) (n : Int) (R : List Int) : St cod := ⟨tmG 67 [(0, .c (.slc 0 0 (List.length b) b_t)), (6, .c (.int .i64 n)), (0, .c (.int .i64 n)), (0, .c (.slc 1 0 (Int.toNat n) true))], ([.inp 9 b, .own 9 R 5] : Heap cod)⟩


noncomputable def st_rep_18 (b : List Int) (b_t : Bool) (n : Int) (R : List Int) (bp : Int) : St cod := ⟨tmG 66 [(0, .c .junk), (6, .c (.int .i64 n)), (0, .c (.int .i64 n)), (0, .c (.slc 1 0 (Int.toNat n) true)), (0, .c (.int .i64 bp))], ([.inp 9 b, .own 9 R 5] : Heap cod)⟩


theorem rep_t18 (b : List Int) (b_t : Bool) (n : Int) (R : List Int) (bp : Int) : symF C_mulu cuts_rep Try.f10.results.toList 1 400 (cutAt Try.f10 18) (st_rep_18 b b_t n R bp) =
 cond (decide (bp < n)) (
 .need (((0 : Int) ≤ bp ∧ bp ≤ Int.ofNat (Int.toNat n))) (
 .need (((0 : Int) ≤ min bp n ∧ min bp n ≤ Int.ofNat (Int.toNat n))) (
 .need (List.length (List.take (Int.toNat (min bp n)) (List.drop 0 R)) = Int.toNat (min bp n)) (
 .need (0 + Int.toNat bp + (Int.toNat n - Int.toNat bp) ≤ List.length R) (
 .need (i64ok   (bp +     Int.ofNat (Nat.min (List.length (List.take (Int.toNat (min bp n)) (List.drop 0 R))) (Int.toNat n - Int.toNat bp)))) (
 .ret (.cut (cutAt Try.f10 18) ⟨tmG 66 [(7, .c (.int .i64 n)), (0, .c (.int .i64 n)), (0, .c (.slc 1 0 (Int.toNat n) true)), (0, .c (.int .i64 (bp + Int.ofNat (Nat.min (List.length (List.take (Int.toNat (min bp n)) (List.drop 0 R))) (Int.toNat n - Int.toNat bp)))))], [.inp 9 b, .own 9 ((List.take (0 + Int.toNat bp) R) ++ ((List.take (Int.toNat n - Int.toNat bp) (List.take (Int.toNat (min bp n)) (List.drop 0 R))) ++ (List.drop   (0 + Int.toNat bp +     Nat.min (List.length (List.take (Int.toNat (min bp n)) (List.drop 0 R))) (Int.toNat n - Int.toNat bp))   R))) 5]⟩))))))) (
 .ret (.fin (.c (.slc 1 0 (Int.toNat n) true)) [.own 9 R 5])) := by kernel_rfl


theorem rep_y17 (b : List Int) (b_t : Bool) (n : Int) (R : List Int) : symF C_mulu cuts_rep_r17 Try.f10.results.toList 1 400 (regAt Try.f10 16).tail (st_rep_r17 b b_t n R) =
.need (List.length (List.take (List.length b) (List.drop 0 b)) = List.length b) (
.need (0 + Int.toNat n ≤ List.length R) (
.ret (.cut (cutAt Try.f10 18) ⟨tmG 66 [(7, .c (.int .i64 n)), (0, .c (.int .i64 n)), (0, .c (.slc 1 0 (Int.toNat n) true)), (0, .c (.int .i64 (Int.ofNat (Nat.min (List.length (List.take (List.length b) (List.drop 0 b))) (Int.toNat n)))))], [.inp 9 b, .own 9 ([] ++ ((List.take (Int.toNat n) (List.take (List.length b) (List.drop 0 b))) ++ (List.drop (0 + Nat.min (List.length (List.take (List.length b) (List.drop 0 b))) (Int.toNat n)) R))) 5]⟩))) := by kernel_rfl


theorem rep_x17 (b : List Int) (b_t : Bool) (n : Int) (R : List Int) : ((lexT C_mulu (Q16.toList.drop 2) ((st_rep_x1 b b_t n).put (some 54) { v := .c (.own 1 (Int.toNat n)), H := [.inp 9 b] ++ [.own 9 R 5] })).bind fun s => T.ret (Fin.cut (regAt Try.f10 16) (s.fit [9, 8, 7, 0] 2))) =
.need (((0 : Int) ≤ n ∧ (n ≤ Int.ofNat (Int.toNat n) ∧ n = n))) (
.ret (.cut (regAt Try.f10 16) ⟨tmG 67 [(0, .c (.slc 0 0 (List.length b) b_t)), (6, .c (.int .i64 n)), (0, .c (.int .i64 n)), (0, .c (.slc 1 0 (Int.toNat n) true))], [.inp 9 b, .own 9 R 5]⟩)) := by kernel_rfl


theorem rep_x16 (b : List Int) (b_t : Bool) (n : Int) : ((lexT C_mulu (Q16.toList.take 1) (st_rep_r16 b b_t n)).bind fun s => T.ret (Fin.cut (regAt Try.f10 16) s)) =
.ret (.cut (regAt Try.f10 16) ⟨tmG 23 [(0, .c (.slc 0 0 (List.length b) b_t)), (6, .c (.int .i64 n)), (0, .c (.int .i64 n)), (44, .c (.int .i64 n))], [.inp 9 b]⟩) := by kernel_rfl



theorem Q16_at : regAt Try.f10 16 = .code (.region (idI (regAt Try.f10 16)) Q16 false) :: (regAt Try.f10 16).tail := by kernel_rfl
noncomputable def O54 : Oper := Q16.toList.getD 1 default
theorem O54_op : O54.op = .call ⟨.value (.func 20), #[.tmp 53], #[3]⟩ := by kernel_rfl
theorem O54_dst : O54.dst = some 54 := by kernel_rfl
theorem Q16_split : Q16.toList = Q16.toList.take 1 ++ O54 :: Q16.toList.drop 2 := by kernel_rfl
theorem Q16_free : (Q16.toList.all fun o => o.guard.isNone) = true := by kernel_rfl
theorem rep_x16' (b : List Int) (b_t : Bool) (n : Int) : lexT C_mulu (Q16.toList.take 1) (st_rep_r16 b b_t n) = .ret (st_rep_x1 b b_t n) := by kernel_rfl
theorem rep_grow (R : List Int) (x : Int) (q N : Nat) (hR : R.length = N) (hq : q ≤ N) (ht : R.take q = List.replicate q x) :
    (R.take q ++ ((R.take q).take (N - q) ++ R.drop (q + min q (N - q)))).length = N ∧ (R.take q ++ ((R.take q).take (N - q) ++ R.drop (q + min q (N - q)))).take (q + min q (N - q)) = List.replicate (q + min q (N - q)) x := by
  rw [ht]
  have e1 : (List.replicate q x).take (N - q) = List.replicate (min q (N - q)) x := by rw [List.take_replicate, Nat.min_comm]
  rw [e1]
  refine ⟨by simp only [List.length_append, List.length_replicate, List.length_drop]; omega, ?_⟩
  rw [← List.append_assoc, List.replicate_append_replicate, List.take_left' (by simp)]
theorem rep_run (b : List Int) (b_t : Bool) (n : Int) (b0 : Base) (hb : b0.n = 1) (h0 : b.length = 1) (h1 : 1 ≤ n ∧ n ≤ 60) : Sym.Runs Try.prog b0 [.code (codeOf Try.f10)] ⟨argsS Try.f10 [.c (.slc 0 0 (List.length b) b_t), .c (.int .i64 n)], ([.inp 9 b] : Heap cod)⟩ (Sym.Ends Try.prog Try.f10 1 (.c (.slc 1 0 (Int.toNat n) true)) [.own 9 (F.rep b n) 5]) := by
  obtain ⟨hn1, hn2⟩ := h1
  have hw : IntKind.wrap IntKind.u64 n = n := by
    rw [IntKind.wrap_u64]
    omega
  obtain ⟨N, rfl⟩ : ∃ N : Nat, n = N := ⟨n.toNat, by omega⟩
  have hNN : (N : Int).toNat = N := Int.toNat_natCast N
  have hrep : F.rep b (N : Int) = List.replicate N (b.getD 0 0) := by unfold F.rep; rw [hNN]
  have loop : ∀ (r q : Nat) (R : List Int), q + r = N → 0 < q → R.length = N → R.take q = List.replicate q (b.getD 0 0) → Sym.Runs Try.prog b0 (cutAt Try.f10 18) (st_rep_18 b b_t (N : Int) R (q : Int)) (Sym.Ends Try.prog Try.f10 1 (.c (.slc 1 0 (Int.toNat (N : Int)) true)) [.own 9 (F.rep b (N : Int)) 5]) := by
    intro r
    induction r using Nat.strongRecOn with
    | _ r ih =>
      intro q R hq h0q hRl ht
      refine Runs.go (cfg := C_mulu) L_mulu_ok mixed cuts_rep 400 hb (rep_t18 b b_t (N : Int) R (q : Int)) ?_
      by_cases hr : r = 0
      · have e : q = N := by omega
        subst e
        rw [← hRl, List.take_length] at ht
        rw [hRl] at ht
        rw [hrep]
        simp only [T.wp, T.wp_cond, Aft, Int.ofNat_eq_natCast, decide_eq_true_eq, and_true, true_and, Nat.zero_add, Bool.not_eq_true', decide_eq_false_iff_not]
        refine ite_no (by omega) ?_
        rw [ht]
      · obtain ⟨g1, g2⟩ := rep_grow R (b.getD 0 0) q N hRl (by omega) ht
        have hk : 0 < min q (N - q) := by omega
        have nx := ih (r - min q (N - q)) (by omega) (q + min q (N - q)) _ (by omega) (by omega) g1 g2
        have e1 : Int.toNat (min (q : Int) (N : Int)) = q := by omega
        have e2 : (R.take q).length = q := by rw [List.length_take]; omega
        have e3 : Nat.min q (N - q) = min q (N - q) := rfl
        rw [Int.natCast_add] at nx
        simp only [T.wp, T.wp_cond, Aft, Int.ofNat_eq_natCast, decide_eq_true_eq, and_true, true_and, Nat.zero_add, Bool.not_eq_true', decide_eq_false_iff_not, Int.toNat_natCast, e1, List.drop_zero, e2, e3]
        exact ite_yes (by omega) ⟨⟨by omega, by omega⟩, ⟨by omega, by omega⟩, by omega, by unfold i64ok; omega, nx⟩
  refine Runs.go (cfg := C_mulu) L_mulu_ok mixed cuts_rep 400 hb (rep_t0 b b_t (N : Int)) ?_
  have hb1 : IntKind.wrap IntKind.u64 (Int.ofNat (List.length b)) = 1 := by rw [h0]; decide
  have hr16 : Sym.Runs Try.prog b0 (regAt Try.f10 16) (st_rep_r16 b b_t (N : Int)) (Sym.Ends Try.prog Try.f10 1 (.c (.slc 1 0 (Int.toNat (N : Int)) true)) [.own 9 (F.rep b (N : Int)) 5]) := by
    refine Runs.midE (cfg := C_mulu) L_mulu_ok Q16_at Q16_split Q16_free (rep_x16' b b_t (N : Int)) (fun l : List Int => l.length = (N : Int).toNat) ?_
    refine ⟨_, step_makeNoZero O54_op rfl (by omega) (by omega), fun R hR => ?_⟩
    rw [hNN] at hR
    have hcont : Sym.Runs Try.prog b0 (regAt Try.f10 16).tail (st_rep_r17 b b_t (N : Int) R) (Sym.Ends Try.prog Try.f10 1 (.c (.slc 1 0 (Int.toNat (N : Int)) true)) [.own 9 (F.rep b (N : Int)) 5]) := by
      refine Runs.go (cfg := C_mulu) L_mulu_ok mixed cuts_rep_r17 400 hb (rep_y17 b b_t (N : Int) R) ?_
      have e0 : List.take (List.length b) (List.drop 0 b) = b := by rw [List.drop_zero, List.take_length]
      have e1 : Nat.min 1 N = 1 := by show min 1 N = 1; omega
      have eb : b = [b.getD 0 0] := by
        match b, h0 with
        | [x], _ => rfl
      have et : List.take N b = b := List.take_of_length_le (by omega)
      have nx := loop (N - 1) 1 (b ++ R.drop 1) (by omega) (by omega) (by rw [List.length_append, List.length_drop, h0]; omega) (by rw [List.take_left' h0]; exact eb)
      rw [e0]
      simp only [T.wp, T.wp_cond, Aft, Int.ofNat_eq_natCast, decide_eq_true_eq, and_true, true_and, Nat.zero_add, Bool.not_eq_true', decide_eq_false_iff_not, Int.toNat_natCast, h0, e1, et, List.nil_append]
      exact ⟨by omega, nx⟩
    have h := rep_x17 b b_t (N : Int) R
    have hw2 : (T.need (((0 : Int) ≤ (N : Int) ∧ ((N : Int) ≤ Int.ofNat (Int.toNat (N : Int)) ∧ (N : Int) = (N : Int)))) (T.ret (Fin.cut (regAt Try.f10 16) (st_rep_r17 b b_t (N : Int) R))) : T (Fin cod)).wp (fun r => ∃ s, r = .cut (regAt Try.f10 16) s ∧ Sym.Runs Try.prog b0 (regAt Try.f10 16).tail s (Sym.Ends Try.prog Try.f10 1 (.c (.slc 1 0 (Int.toNat (N : Int)) true)) [.own 9 (F.rep b (N : Int)) 5])) :=
      ⟨⟨by omega, by rw [Int.ofNat_eq_natCast]; omega, rfl⟩, _, rfl, hcont⟩
    have h2 := (congrArg (fun t : T (Fin cod) => t.wp (fun r => ∃ s, r = .cut (regAt Try.f10 16) s ∧ Sym.Runs Try.prog b0 (regAt Try.f10 16).tail s (Sym.Ends Try.prog Try.f10 1 (.c (.slc 1 0 (Int.toNat (N : Int)) true)) [.own 9 (F.rep b (N : Int)) 5]))) h).mpr hw2
    rw [T.wp_bind] at h2
    refine T.wp_mono (fun s hs => ?_) h2
    obtain ⟨s', e, hs⟩ := hs
    cases e
    exact Runs.weaken (fun a w hR => fit_rel [9, 8, 7, 0] 2 (by omega) hR) hs
  simp only [T.wp, T.wp_cond, Aft, Int.ofNat_eq_natCast, decide_eq_true_eq, and_true, true_and, Nat.zero_add, Bool.not_eq_true', decide_eq_false_iff_not, hw]
  rw [Int.ofNat_eq_natCast] at hb1
  refine ite_no (by omega) (ite_no (by omega) ⟨⟨hb1, by omega, by omega⟩, ite_no (by omega) ⟨by unfold i64ok; omega, ite_no (by omega) (ite_no (by omega) hr16)⟩⟩)



noncomputable def s_rep : Summ cod := fun args H => match args, H with
  | [.c (.slc 0 b_i b_n b_t), .c (.int .i64 n)], [o0] => (match o0.asInp 9 with | some b => .need ((b_i = 0 ∧ b_n = List.length b) ∧ (b.length = 1) ∧ (1 ≤ n ∧ n ≤ 60)) (.ret (.c (.slc 1 0 (Int.toNat n) true), [.own 9 (F.rep b n) 5])) | none => .fail)
  | _, _ => .fail


theorem rep_sound : Sound Try.prog cod 10 s_rep := sound_runs (cfg := C_mulu) L_mulu_ok mixed Try.func10 rfl rfl _ fun args H r news hg b0 hb => by
  unfold s_rep at hg
  split at hg
  · skip
    split at hg
    · rename_i b hx0
      cases asInp_spec hx0
      simp only [T.gives, T.wp, Prod.mk.injEq] at hg
      obtain ⟨⟨⟨rfl, rfl⟩, q1, q2⟩, rfl, rfl⟩ := hg
      exact rep_run _ _ _ b0 hb (by assumption) (by assumption)
    · exact hg.elim
  · exact hg.elim

noncomputable def L_rep : Sums cod := (10, .p s_rep) :: L_mulu
noncomputable def C_rep : Cfg cod := mkC L_rep

theorem L_rep_ok : Snd Try.prog cod L_rep := .cons rep_sound L_mulu_ok


end
end Go.Proofs.Ytbdhppceihcbnaa
