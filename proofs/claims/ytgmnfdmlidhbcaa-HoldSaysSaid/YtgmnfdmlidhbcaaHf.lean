/- Part of a claim: lemmas on the way to its theorem; each states its own conditions. -/
import Derived.Test.YtgmnfdmlidhbcaaHoS
namespace Go.Proofs.Ytgmnfdmlidhbcaa
open Sym Go.RowKit
noncomputable section
set_option maxRecDepth 100000
set_option maxHeartbeats 4000000



def F.L0 : Nat → F.HL := fun _ => F.hl0


def cuts_leql : Cuts := [(4, [1, 0, 12, 13], 2)]

theorem leql_t0 (a : List (List UInt8 × Int × Int)) (a_t : Bool) (b : List (List UInt8 × Int × Int)) (b_t : Bool) : symF C_mlst cuts_leql Try.f26.results.toList 2 400 [.code (codeOf Try.f26)] ⟨argsS Try.f26 [.c (.slc 0 0 (List.length a) a_t), .c (.slc 1 0 (List.length b) b_t)], ([.inp 1 a, .inp 1 b] : Heap cod)⟩ =
 cond (!decide (Int.ofNat (List.length a) = Int.ofNat (List.length b))) (
 .ret (.fin (.c (.bool false)) [])) (
 .ret (.cut (cutAt Try.f26 4) ⟨tmG 12 [(0, .c (.slc 0 0 (List.length a) a_t)), (0, .c (.slc 1 0 (List.length b) b_t)), (10, .c (.int .i64 (Int.ofNat (List.length a)))), (0, .c (.int .i64 0))], [.inp 1 a, .inp 1 b]⟩)) := by kernel_rfl


noncomputable def st_leql_4 (a : List (List UInt8 × Int × Int)) (a_t : Bool) (b : List (List UInt8 × Int × Int)) (b_t : Bool) (i : Int) : St cod := ⟨tmG 12 [(0, .c (.slc 0 0 (List.length a) a_t)), (0, .c (.slc 1 0 (List.length b) b_t)), (10, .c (.int .i64 (Int.ofNat (List.length a)))), (0, .c (.int .i64 i))], [.inp 1 a, .inp 1 b]⟩


theorem leql_t4 (a : List (List UInt8 × Int × Int)) (a_t : Bool) (b : List (List UInt8 × Int × Int)) (b_t : Bool) (i : Int) : symF C_mlst cuts_leql Try.f26.results.toList 2 400 (cutAt Try.f26 4) (st_leql_4 a a_t b b_t i) =
 cond (decide (i < Int.ofNat (List.length a))) (
 .need (((0 : Int) ≤ i ∧ i < Int.ofNat (List.length a))) (
 .need (0 + Int.toNat i < List.length a) (
 .need (((0 : Int) ≤ i ∧ i < Int.ofNat (List.length b))) (
 .need (0 + Int.toNat i < List.length b) (
 cond (!(decide ((List.getD a (0 + Int.toNat i) (cod 1).d).1 = (List.getD b (0 + Int.toNat i) (cod 1).d).1) &&     (decide ((List.getD a (0 + Int.toNat i) (cod 1).d).2.1 = (List.getD b (0 + Int.toNat i) (cod 1).d).2.1) &&       decide ((List.getD a (0 + Int.toNat i) (cod 1).d).2.2 = (List.getD b (0 + Int.toNat i) (cod 1).d).2.2)))) (
  .ret (.fin (.c (.bool false)) [])) (
  .need (i64ok (i + 1)) (
  .ret (.cut (cutAt Try.f26 4) ⟨tmG 12 [(0, .c (.slc 0 0 (List.length a) a_t)), (0, .c (.slc 1 0 (List.length b) b_t)), (10, .c (.int .i64 (Int.ofNat (List.length a)))), (0, .c (.int .i64 (i + 1)))], [.inp 1 a, .inp 1 b]⟩)))))))) (
 .ret (.fin (.c (.bool true)) [])) := by kernel_rfl



theorem leql_run (a : List (List UInt8 × Int × Int)) (a_t : Bool) (b : List (List UInt8 × Int × Int)) (b_t : Bool) (b0 : Base) (hb : b0.n = 2) (h0 : a = b) (h1 : a.length ≤ 100000) : Sym.Runs Try.prog b0 [.code (codeOf Try.f26)] ⟨argsS Try.f26 [.c (.slc 0 0 (List.length a) a_t), .c (.slc 1 0 (List.length b) b_t)], ([.inp 1 a, .inp 1 b] : Heap cod)⟩ (Sym.Ends Try.prog Try.f26 2 (.c (.bool true)) []) := by
  subst h0
  have key : ∀ (m k : Nat), k + m = a.length →
      Sym.Runs Try.prog b0 (cutAt Try.f26 4) (st_leql_4 a a_t a b_t (k : Int)) (Sym.Ends Try.prog Try.f26 2 (.c (.bool true)) []) := by
    intro m
    induction m with
    | zero =>
      intro k hk
      refine Runs.go (cfg := C_mlst) L_mlst_ok mixed cuts_leql 400 hb (leql_t4 a a_t a b_t (k : Int)) ?_
      simp only [T.wp, T.wp_cond, Aft, Int.ofNat_eq_natCast, decide_eq_true_eq, and_true, true_and, Nat.zero_add, Bool.not_eq_true', decide_eq_false_iff_not]
      exact ite_no (by omega) trivial
    | succ m ih =>
      intro k hk
      refine Runs.go (cfg := C_mlst) L_mlst_ok mixed cuts_leql 400 hb (leql_t4 a a_t a b_t (k : Int)) ?_
      have nx := ih (k + 1) (by omega)
      have hk1 : (k : Int) < (a.length : Int) := by omega
      simp only [T.wp, T.wp_cond, Aft, Int.ofNat_eq_natCast, decide_eq_true_eq, and_true, true_and, Nat.zero_add, Bool.not_eq_true', decide_eq_false_iff_not, decide_true, Bool.and_true, Bool.not_true, Bool.false_eq_true, if_false]
      exact ite_yes hk1 ⟨⟨by omega, hk1⟩, by omega, ⟨by omega, hk1⟩, by omega, by unfold Sym.i64ok; omega, nx⟩
  refine Runs.go (cfg := C_mlst) L_mlst_ok mixed cuts_leql 400 hb (leql_t0 a a_t a b_t) ?_
  simp only [T.wp, T.wp_cond, Aft, Int.ofNat_eq_natCast, decide_eq_true_eq, and_true, true_and, Nat.zero_add, Bool.not_eq_true', decide_eq_false_iff_not]
  exact ite_no (fun q => q trivial) (key a.length 0 (by omega))



noncomputable def s_leql : Summ cod := fun args H => match args, H with
  | [.c (.slc 0 a_i a_n a_t), .c (.slc 1 b_i b_n b_t)], [o0, o1] => (match o0.asInp 1 with | some a => (match o1.asInp 1 with | some b => .need ((a_i = 0 ∧ a_n = List.length a) ∧ (b_i = 0 ∧ b_n = List.length b) ∧ (a = b) ∧ (a.length ≤ 100000)) (.ret (.c (.bool true), [])) | none => .fail) | none => .fail)
  | _, _ => .fail


theorem leql_sound : Sound Try.prog cod 26 s_leql := sound_runs (cfg := C_mlst) L_mlst_ok mixed Try.func26 rfl rfl _ fun args H r news hg b0 hb => by
  unfold s_leql at hg
  split at hg
  · skip
    split at hg
    · rename_i a hx0
      cases asInp_spec hx0
      split at hg
      · rename_i b hx1
        cases asInp_spec hx1
        simp only [T.gives, T.wp, Prod.mk.injEq] at hg
        obtain ⟨⟨⟨rfl, rfl⟩, ⟨rfl, rfl⟩, q2, q3⟩, rfl, rfl⟩ := hg
        exact leql_run _ _ _ _ b0 hb (by assumption) (by assumption)
      · exact hg.elim
    · exact hg.elim
  · exact hg.elim

noncomputable def L_leql : Sums cod := (26, .p s_leql) :: L_mlst
noncomputable def C_leql : Cfg cod := mkC L_leql

theorem L_leql_ok : Snd Try.prog cod L_leql := .cons leql_sound L_mlst_ok



def cuts_hlaw : Cuts := [(100004, [2, 1, 5], 9), (100007, [2, 1], 2), (100014, [9, 2, 1], 2), (100017, [10, 1, 2], 9), (100018, [12, 10, 1], 9), (19, [12, 10, 110, 111, 112], 5), (100026, [12, 10, 110, 111, 112, 14, 118], 6)]
def cuts_hlaw_r4 : Cuts := [(100007, [2, 1], 2), (100014, [9, 2, 1], 2), (100017, [10, 1, 2], 9), (100018, [12, 10, 1], 9), (19, [12, 10, 110, 111, 112], 5), (100026, [12, 10, 110, 111, 112, 14, 118], 6)]
def cuts_hlaw_r4b : Cuts := [(100007, [2, 1], 2), (100014, [9, 2, 1], 2), (100017, [10, 1, 2], 9), (100018, [12, 10, 1], 9), (19, [12, 10, 110, 111, 112], 5), (100026, [12, 10, 110, 111, 112, 14, 118], 6)]
def cuts_hlaw_r7 : Cuts := [(100004, [2, 1, 5], 9), (100014, [9, 2, 1], 2), (100017, [10, 1, 2], 9), (100018, [12, 10, 1], 9), (19, [12, 10, 110, 111, 112], 5), (100026, [12, 10, 110, 111, 112, 14, 118], 6)]
def cuts_hlaw_r14 : Cuts := [(100004, [2, 1, 5], 9), (100007, [2, 1], 2), (100017, [10, 1, 2], 9), (100018, [12, 10, 1], 9), (19, [12, 10, 110, 111, 112], 5), (100026, [12, 10, 110, 111, 112, 14, 118], 6)]
def cuts_hlaw_r17 : Cuts := [(100004, [2, 1, 5], 9), (100007, [2, 1], 2), (100014, [9, 2, 1], 2), (100018, [12, 10, 1], 9), (19, [12, 10, 110, 111, 112], 5), (100026, [12, 10, 110, 111, 112, 14, 118], 6)]
def cuts_hlaw_r17b : Cuts := [(100004, [2, 1, 5], 9), (100007, [2, 1], 2), (100014, [9, 2, 1], 2), (100018, [12, 10, 1], 9), (19, [12, 10, 110, 111, 112], 5), (100026, [12, 10, 110, 111, 112, 14, 118], 6)]
def cuts_hlaw_r18 : Cuts := [(100004, [2, 1, 5], 9), (100007, [2, 1], 2), (100014, [9, 2, 1], 2), (100017, [10, 1, 2], 9), (19, [12, 10, 110, 111, 112], 5), (100026, [12, 10, 110, 111, 112, 14, 118], 6)]
def cuts_hlaw_r18b : Cuts := [(100004, [2, 1, 5], 9), (100007, [2, 1], 2), (100014, [9, 2, 1], 2), (100017, [10, 1, 2], 9), (19, [12, 10, 110, 111, 112], 5), (100026, [12, 10, 110, 111, 112, 14, 118], 6)]
def cuts_hlaw_r26 : Cuts := [(100004, [2, 1, 5], 9), (100007, [2, 1], 2), (100014, [9, 2, 1], 2), (100017, [10, 1, 2], 9), (100018, [12, 10, 1], 9), (19, [12, 10, 110, 111, 112], 5)]

theorem hlaw_t0 (lo hi st : Int) (l : List (Int × List UInt8 × Int)) (l_t : Bool) : symF C_leql cuts_hlaw Try.f5.results.toList 1 400 [.code (codeOf Try.f5)] ⟨argsS Try.f5 [.agg [.int .i64 lo, .int .i64 hi, .int .i64 st], .c (.slc 0 0 (List.length l) l_t)], ([.inp 5 l] : Heap cod)⟩ =
.ite (decide (F.hchk 3000 5000 1000 = 0)) (
 .need ((F.hchk 3000 5000 1000 : Int) = 0) (
 .need (True) (
 .ret (.cut (regAt Try.f5 4) ⟨tmG 184 [(1, .c (.slc 0 0 (List.length l) l_t)), (0, .c (.ptr 1 0 0)), (2, .c (.ptr 2 0 0))], [.inp 5 l, .blk [.int .i64 lo, .int .i64 hi, .int .i64 st] 46, .blk [.int .i64 3000, .int .i64 5000, .int .i64 1000, .nil, .int .i64 0] 72]⟩)))) (
 .need ((F.hchk 3000 5000 1000 : Int) ≠ 0) (
 .need (True) (
 .ret (.fin (.c (.bool false)) [])))) := by kernel_rfl


noncomputable def st_hlaw_r4 (lo hi st : Int) (l : List (Int × List UInt8 × Int)) (l_t : Bool)  : St cod := ⟨tmG 184 [(1, .c (.slc 0 0 (List.length l) l_t)), (0, .c (.ptr 1 0 0)), (2, .c (.ptr 2 0 0))], [.inp 5 l, .blk [.int .i64 lo, .int .i64 hi, .int .i64 st] 46, .blk [.int .i64 3000, .int .i64 5000, .int .i64 1000, .nil, .int .i64 0] 72]⟩


noncomputable def st_hlaw_r4b (lo hi st : Int) (l : List (Int × List UInt8 × Int)) (l_t : Bool)  : St cod := ⟨tmG 184 [(1, .c (.slc 0 0 (List.length l) l_t)), (0, .c (.ptr 1 0 0)), (2, .c (.ptr 2 0 0))], ([.inp 5 l, .blk [.int .i64 lo, .int .i64 hi, .int .i64 st] 46, .blk [.int .i64 3000, .int .i64 5000, .int .i64 1000, .own 3 0, .int .i64 0] 72, .own 1 [] 57] : Heap cod)⟩


theorem hlaw_tr4b (lo hi st : Int) (l : List (Int × List UInt8 × Int)) (l_t : Bool)  : symF C_leql cuts_hlaw_r4b Try.f5.results.toList 1 400 (regAt Try.f5 4) (st_hlaw_r4b lo hi st l l_t ) =
.need ((HObj.blk   [Cell.int IntKind.i64 3000, Cell.int IntKind.i64 5000, Cell.int IntKind.i64 1000, Cell.own 1 0,     Cell.int IntKind.i64 0]   72 : HObj cod) = HObj.blk   [Cell.int IntKind.i64 3000, Cell.int IntKind.i64 5000, Cell.int IntKind.i64 1000, Cell.own 1 0,     Cell.int IntKind.i64 0]   72) (
.need ((F.hok [] ∧ ((0 : Int) ≤ 1000 ∧ (1000 : Int) ≤ 100000))) (
.ret (.cut (regAt Try.f5 7) ⟨tmG 187 [(1, .c (.slc 0 0 (List.length l) l_t)), (0, .c (.ptr 1 0 0))], [.inp 5 l, .blk [.int .i64 lo, .int .i64 hi, .int .i64 st] 46]⟩))) := by kernel_rfl


noncomputable def st_hlaw_r7 (lo hi st : Int) (l : List (Int × List UInt8 × Int)) (l_t : Bool)  : St cod := ⟨tmG 187 [(1, .c (.slc 0 0 (List.length l) l_t)), (0, .c (.ptr 1 0 0))], [.inp 5 l, .blk [.int .i64 lo, .int .i64 hi, .int .i64 st] 46]⟩


theorem hlaw_tr7 (lo hi st : Int) (l : List (Int × List UInt8 × Int)) (l_t : Bool)  : symF C_leql cuts_hlaw_r7 Try.f5.results.toList 1 400 (regAt Try.f5 7) (st_hlaw_r7 lo hi st l l_t ) =
 cond (decide (lo < 0)) (
 .ret (.cut (regAt Try.f5 14) ⟨tmG 180 [(1, .c (.slc 0 0 (List.length l) l_t)), (0, .c (.ptr 1 0 0)), (6, .c (.int .i64 4))], [.inp 5 l, .blk [.int .i64 lo, .int .i64 hi, .int .i64 st] 46]⟩)) (
 cond (decide (60000 < hi)) (
  .ret (.cut (regAt Try.f5 14) ⟨tmG 180 [(1, .c (.slc 0 0 (List.length l) l_t)), (0, .c (.ptr 1 0 0)), (6, .c (.int .i64 4))], [.inp 5 l, .blk [.int .i64 lo, .int .i64 hi, .int .i64 st] 46]⟩)) (
  cond (!F.inb st 100 10000) (
   .ret (.cut (regAt Try.f5 14) ⟨tmG 180 [(1, .c (.slc 0 0 (List.length l) l_t)), (0, .c (.ptr 1 0 0)), (6, .c (.int .i64 4))], [.inp 5 l, .blk [.int .i64 lo, .int .i64 hi, .int .i64 st] 46]⟩)) (
   cond (decide (hi < lo)) (
    .ret (.cut (regAt Try.f5 14) ⟨tmG 180 [(1, .c (.slc 0 0 (List.length l) l_t)), (0, .c (.ptr 1 0 0)), (6, .c (.int .i64 3))], [.inp 5 l, .blk [.int .i64 lo, .int .i64 hi, .int .i64 st] 46]⟩)) (
    .need (i64ok (hi - lo)) (
    .need (st ≠ 0) (
    .need (i64ok (Int.tdiv (hi - lo) st)) (
    cond (decide (32 ≤ Int.tdiv (hi - lo) st)) (
     .ret (.cut (regAt Try.f5 14) ⟨tmG 180 [(1, .c (.slc 0 0 (List.length l) l_t)), (0, .c (.ptr 1 0 0)), (6, .c (.int .i64 2))], [.inp 5 l, .blk [.int .i64 lo, .int .i64 hi, .int .i64 st] 46]⟩)) (
     .ret (.cut (regAt Try.f5 14) ⟨tmG 180 [(1, .c (.slc 0 0 (List.length l) l_t)), (0, .c (.ptr 1 0 0)), (6, .c (.int .i64 0))], [.inp 5 l, .blk [.int .i64 lo, .int .i64 hi, .int .i64 st] 46]⟩))))))))) := by kernel_rfl


noncomputable def st_hlaw_r14 (lo hi st : Int) (l : List (Int × List UInt8 × Int)) (l_t : Bool) (f : Int) : St cod := ⟨tmG 180 [(1, .c (.slc 0 0 (List.length l) l_t)), (0, .c (.ptr 1 0 0)), (6, .c (.int .i64 f))], [.inp 5 l, .blk [.int .i64 lo, .int .i64 hi, .int .i64 st] 46]⟩


theorem hlaw_tr14 (lo hi st : Int) (l : List (Int × List UInt8 × Int)) (l_t : Bool) (f : Int) : symF C_leql cuts_hlaw_r14 Try.f5.results.toList 1 400 (regAt Try.f5 14) (st_hlaw_r14 lo hi st l l_t f) =
.ite (decide (F.hchk lo hi st = 0)) (
 .need (F.hchk lo hi st = 0) (
 cond (!decide (0 = f)) (
  cond (decide (0 = f)) (
   cond (decide (F.hchk lo hi st = f)) (
    .need (True) (
    .ret (.fin (.c (.bool false)) []))) (
    .ret (.fin (.c (.bool false)) []))) (
   .ret (.fin (.c (.bool false)) []))) (
  cond (!decide (F.hchk lo hi st = f)) (
   cond (decide (0 = f)) (
    cond (decide (F.hchk lo hi st = f)) (
     .need (True) (
     .ret (.fin (.c (.bool false)) []))) (
     .ret (.fin (.c (.bool false)) []))) (
    .ret (.fin (.c (.bool false)) []))) (
   cond (!decide (f = 0)) (
    cond (decide (0 = f)) (
     cond (decide (F.hchk lo hi st = f)) (
      .need (True) (
      .ret (.fin (.c (.bool false)) []))) (
      .ret (.fin (.c (.bool false)) []))) (
     .ret (.fin (.c (.bool false)) []))) (
    .ret (.cut (regAt Try.f5 17) ⟨tmG 179 [(1, .c (.slc 0 0 (List.length l) l_t)), (0, .c (.ptr 1 0 0)), (7, .c (.ptr 2 0 0))], [.inp 5 l, .blk [.int .i64 lo, .int .i64 hi, .int .i64 st] 46, .blk [.int .i64 lo, .int .i64 hi, .int .i64 st, .nil, .int .i64 0] 72]⟩)))))) (
 .need (F.hchk lo hi st ≠ 0) (
 cond (!decide (F.hchk lo hi st = f)) (
  cond (decide (F.hchk lo hi st = f)) (
   cond (decide (F.hchk lo hi st = f)) (
    .need (True) (
    .ret (.fin (.c (.bool true)) []))) (
    .ret (.fin (.c (.bool false)) []))) (
   .ret (.fin (.c (.bool false)) []))) (
  cond (!decide (F.hchk lo hi st = f)) (
   cond (decide (F.hchk lo hi st = f)) (
    cond (decide (F.hchk lo hi st = f)) (
     .need (True) (
     .ret (.fin (.c (.bool true)) []))) (
     .ret (.fin (.c (.bool false)) []))) (
    .ret (.fin (.c (.bool false)) []))) (
   cond (!decide (f = 0)) (
    cond (decide (F.hchk lo hi st = f)) (
     cond (decide (F.hchk lo hi st = f)) (
      .need (True) (
      .ret (.fin (.c (.bool true)) []))) (
      .ret (.fin (.c (.bool false)) []))) (
     .ret (.fin (.c (.bool false)) []))) (
    .ret (.cut (regAt Try.f5 17) ⟨tmG 179 [(1, .c (.slc 0 0 (List.length l) l_t)), (0, .c (.ptr 1 0 0)), (7, .c (.raw (Value.pointer none)))], [.inp 5 l, .blk [.int .i64 lo, .int .i64 hi, .int .i64 st] 46]⟩)))))) := by kernel_rfl


noncomputable def st_hlaw_r17 (lo hi st : Int) (l : List (Int × List UInt8 × Int)) (l_t : Bool) (f : Int) : St cod := ⟨tmG 179 [(1, .c (.slc 0 0 (List.length l) l_t)), (0, .c (.ptr 1 0 0)), (7, .c (.ptr 2 0 0))], [.inp 5 l, .blk [.int .i64 lo, .int .i64 hi, .int .i64 st] 46, .blk [.int .i64 lo, .int .i64 hi, .int .i64 st, .nil, .int .i64 0] 72]⟩


noncomputable def st_hlaw_r17b (lo hi st : Int) (l : List (Int × List UInt8 × Int)) (l_t : Bool) (f : Int) : St cod := ⟨tmG 179 [(1, .c (.slc 0 0 (List.length l) l_t)), (0, .c (.ptr 1 0 0)), (7, .c (.ptr 2 0 0))], ([.inp 5 l, .blk [.int .i64 lo, .int .i64 hi, .int .i64 st] 46, .blk [.int .i64 lo, .int .i64 hi, .int .i64 st, .own 3 0, .int .i64 0] 72, .own 1 [] 57] : Heap cod)⟩


theorem hlaw_tr17b (lo hi st : Int) (l : List (Int × List UInt8 × Int)) (l_t : Bool) (f : Int) : symF C_leql cuts_hlaw_r17b Try.f5.results.toList 1 400 (regAt Try.f5 17) (st_hlaw_r17b lo hi st l l_t f) =
.ret (.cut (regAt Try.f5 18) ⟨tmG 177 [(1, .c (.slc 0 0 (List.length l) l_t)), (8, .c (.ptr 2 0 0)), (1, .c (.ptr 4 0 0))], [.inp 5 l, .blk [.int .i64 lo, .int .i64 hi, .int .i64 st] 46, .blk [.int .i64 lo, .int .i64 hi, .int .i64 st, .own 3 0, .int .i64 0] 72, .own 1 [] 57, .blk [.int .i64 lo, .int .i64 hi, .int .i64 st, .str [], .int .i64 0, .int .i64 0, .str [], .int .i64 0, .int .i64 0, .str [], .int .i64 0, .int .i64 0, .str [], .int .i64 0, .int .i64 0, .str [], .int .i64 0, .int .i64 0, .str [], .int .i64 0, .int .i64 0, .str [], .int .i64 0, .int .i64 0, .str [], .int .i64 0, .int .i64 0, .str [], .int .i64 0, .int .i64 0, .str [], .int .i64 0, .int .i64 0, .str [], .int .i64 0, .int .i64 0, .str [], .int .i64 0, .int .i64 0, .str [], .int .i64 0, .int .i64 0, .str [], .int .i64 0, .int .i64 0, .str [], .int .i64 0, .int .i64 0, .str [], .int .i64 0, .int .i64 0, .str [], .int .i64 0, .int .i64 0, .str [], .int .i64 0, .int .i64 0, .str [], .int .i64 0, .int .i64 0, .str [], .int .i64 0, .int .i64 0, .str [], .int .i64 0, .int .i64 0, .str [], .int .i64 0, .int .i64 0, .str [], .int .i64 0, .int .i64 0, .str [], .int .i64 0, .int .i64 0, .str [], .int .i64 0, .int .i64 0, .str [], .int .i64 0, .int .i64 0, .str [], .int .i64 0, .int .i64 0, .str [], .int .i64 0, .int .i64 0, .str [], .int .i64 0, .int .i64 0, .str [], .int .i64 0, .int .i64 0, .str [], .int .i64 0, .int .i64 0, .str [], .int .i64 0, .int .i64 0, .int .i64 0] 60]⟩) := by kernel_rfl


noncomputable def st_hlaw_r18 (lo hi st : Int) (l : List (Int × List UInt8 × Int)) (l_t : Bool) (f : Int) : St cod := ⟨tmG 177 [(1, .c (.slc 0 0 (List.length l) l_t)), (8, .c (.ptr 2 0 0)), (1, .c (.ptr 4 0 0))], [.inp 5 l, .blk [.int .i64 lo, .int .i64 hi, .int .i64 st] 46, .blk [.int .i64 lo, .int .i64 hi, .int .i64 st, .own 3 0, .int .i64 0] 72, .own 1 [] 57, .blk [.int .i64 lo, .int .i64 hi, .int .i64 st, .str [], .int .i64 0, .int .i64 0, .str [], .int .i64 0, .int .i64 0, .str [], .int .i64 0, .int .i64 0, .str [], .int .i64 0, .int .i64 0, .str [], .int .i64 0, .int .i64 0, .str [], .int .i64 0, .int .i64 0, .str [], .int .i64 0, .int .i64 0, .str [], .int .i64 0, .int .i64 0, .str [], .int .i64 0, .int .i64 0, .str [], .int .i64 0, .int .i64 0, .str [], .int .i64 0, .int .i64 0, .str [], .int .i64 0, .int .i64 0, .str [], .int .i64 0, .int .i64 0, .str [], .int .i64 0, .int .i64 0, .str [], .int .i64 0, .int .i64 0, .str [], .int .i64 0, .int .i64 0, .str [], .int .i64 0, .int .i64 0, .str [], .int .i64 0, .int .i64 0, .str [], .int .i64 0, .int .i64 0, .str [], .int .i64 0, .int .i64 0, .str [], .int .i64 0, .int .i64 0, .str [], .int .i64 0, .int .i64 0, .str [], .int .i64 0, .int .i64 0, .str [], .int .i64 0, .int .i64 0, .str [], .int .i64 0, .int .i64 0, .str [], .int .i64 0, .int .i64 0, .str [], .int .i64 0, .int .i64 0, .str [], .int .i64 0, .int .i64 0, .str [], .int .i64 0, .int .i64 0, .str [], .int .i64 0, .int .i64 0, .str [], .int .i64 0, .int .i64 0, .str [], .int .i64 0, .int .i64 0, .int .i64 0] 60]⟩


noncomputable def st_hlaw_r18b (lo hi st : Int) (l : List (Int × List UInt8 × Int)) (l_t : Bool) (f : Int) : St cod := ⟨tmG 177 [(1, .c (.slc 0 0 (List.length l) l_t)), (8, .c (.ptr 2 0 0)), (1, .c (.ptr 4 0 0))], ([.inp 5 l, .blk [.int .i64 lo, .int .i64 hi, .int .i64 st] 46, .blk [.int .i64 lo, .int .i64 hi, .int .i64 st, .own 3 0, .int .i64 0] 72, .own 1 [] 57, .sarr [.int .i64 lo, .int .i64 hi, .int .i64 st] 1 32 (F.lv F.L0) [.int .i64 0] 60] : Heap cod)⟩


theorem hlaw_tr18b (lo hi st : Int) (l : List (Int × List UInt8 × Int)) (l_t : Bool) (f : Int) : symF C_leql cuts_hlaw_r18b Try.f5.results.toList 1 400 (regAt Try.f5 18) (st_hlaw_r18b lo hi st l l_t f) =
.need (((0 : Int) ≤ min (Int.ofNat (List.length l)) 20 ∧ min (Int.ofNat (List.length l)) 20 ≤ Int.ofNat (List.length l))) (
.ret (.cut (cutAt Try.f5 19) ⟨tmG 77 [(10, .c (.ptr 2 0 0)), (1, .c (.ptr 4 0 0)), (97, .c (.slc 0 0 (Int.toNat (min (Int.ofNat (List.length l)) 20)) false)), (0, .c (.int .i64 (Int.ofNat (Int.toNat (min (Int.ofNat (List.length l)) 20))))), (0, .c (.int .i64 0))], [.inp 5 l, .blk [.int .i64 lo, .int .i64 hi, .int .i64 st] 46, .blk [.int .i64 lo, .int .i64 hi, .int .i64 st, .own 3 0, .int .i64 0] 72, .own 1 [] 57, .sarr [.int .i64 lo, .int .i64 hi, .int .i64 st] 1 32 (F.lv F.L0) [.int .i64 0] 60]⟩)) := by kernel_rfl


noncomputable def st_hlaw_19 (lo hi st : Int) (l : List (Int × List UInt8 × Int)) (l_t : Bool) (f : Int) (P : List (List UInt8 × Int × Int)) (L : Nat → F.HL) (q N : Nat) (now la m i : Int) : St cod := ⟨tmG 77 [(10, .c (.ptr 2 0 0)), (1, .c (.ptr 4 0 0)), (97, .c (.slc 0 0 N false)), (0, .c (.int .i64 m)), (0, .c (.int .i64 i))], ([.inp 5 l, .blk [.int .i64 lo, .int .i64 hi, .int .i64 st] 46, .blk [.int .i64 lo, .int .i64 hi, .int .i64 st, .own 3 q, .int .i64 now] 72, .own 1 P 57, .sarr [.int .i64 lo, .int .i64 hi, .int .i64 st] 1 32 (F.lv L) [.int .i64 la] 60] : Heap cod)⟩


theorem hlaw_t19 (lo hi st : Int) (l : List (Int × List UInt8 × Int)) (l_t : Bool) (f : Int) (P : List (List UInt8 × Int × Int)) (L : Nat → F.HL) (q N : Nat) (now la m i : Int) : symF C_leql cuts_hlaw Try.f5.results.toList 1 400 (cutAt Try.f5 19) (st_hlaw_19 lo hi st l l_t f P L q N now la m i) =
 cond (decide (i < m)) (
 .need (((0 : Int) ≤ i ∧ i < Int.ofNat N)) (
 .need (0 + Int.toNat i < List.length l) (
 .need (((0 : Int) ≤ 0 ∧ ((0 : Int) ≤ 2 ∧ ((2 : Int) ≤ 100000 ∧ i64ok (List.getD l (0 + Int.toNat i) (cod 5).d).1)))) (
 .ret (.cut (regAt Try.f5 26) ⟨tmG 71 [(10, .c (.ptr 2 0 0)), (1, .c (.ptr 4 0 0)), (1, .c (.ptr 5 0 0)), (95, .c (.slc 0 0 (N) false)), (0, .c (.int .i64 m)), (0, .c (.int .i64 i)), (5, .c (.int .i64 (F.rcut (List.getD l (0 + Int.toNat i) (cod 5).d).1 0 2)))], [.inp 5 l, .blk [.int .i64 lo, .int .i64 hi, .int .i64 st] 46, .blk [.int .i64 lo, .int .i64 hi, .int .i64 st, .own 3 (q), .int .i64 now] 72, .own 1 P 57, .sarr [.int .i64 lo, .int .i64 hi, .int .i64 st] 1 32 (F.lv L) [.int .i64 la] 60, .blk [.int .i64 ((List.getD l (0 + Int.toNat i) (cod 5).d).1), .str ((List.getD l (0 + Int.toNat i) (cod 5).d).2.1), .int .i64 ((List.getD l (0 + Int.toNat i) (cod 5).d).2.2)] 62]⟩))))) (
 .ret (.fin (.c (.bool true)) [])) := by kernel_rfl


noncomputable def st_hlaw_r26 (lo hi st : Int) (l : List (Int × List UInt8 × Int)) (l_t : Bool) (f : Int) (P : List (List UInt8 × Int × Int)) (L : Nat → F.HL) (q N : Nat) (now la m i : Int) (kd : Int) (cl : List UInt8) (tm kc : Int) : St cod := ⟨tmG 71 [(10, .c (.ptr 2 0 0)), (1, .c (.ptr 4 0 0)), (1, .c (.ptr 5 0 0)), (95, .c (.slc 0 0 (N) false)), (0, .c (.int .i64 m)), (0, .c (.int .i64 i)), (5, .c (.int .i64 kc))], ([.inp 5 l, .blk [.int .i64 lo, .int .i64 hi, .int .i64 st] 46, .blk [.int .i64 lo, .int .i64 hi, .int .i64 st, .own 3 q, .int .i64 now] 72, .own 1 P 57, .sarr [.int .i64 lo, .int .i64 hi, .int .i64 st] 1 32 (F.lv L) [.int .i64 la] 60, .blk [.int .i64 kd, .str cl, .int .i64 tm] 62] : Heap cod)⟩


theorem hlaw_tr26 (lo hi st : Int) (l : List (Int × List UInt8 × Int)) (l_t : Bool) (f : Int) (P : List (List UInt8 × Int × Int)) (L : Nat → F.HL) (q N : Nat) (now la m i : Int) (kd : Int) (cl : List UInt8) (tm kc : Int) : symF C_leql cuts_hlaw_r26 Try.f5.results.toList 1 400 (regAt Try.f5 26) (st_hlaw_r26 lo hi st l l_t f P L q N now la m i kd cl tm kc) =
 cond (decide (kc = 0)) (
 .need ((HObj.blk [Cell.int IntKind.i64 lo, Cell.int IntKind.i64 hi, Cell.int IntKind.i64 st, Cell.own 1 q, Cell.int IntKind.i64 now] 72 : HObj cod) =   HObj.blk     [Cell.int IntKind.i64 lo, Cell.int IntKind.i64 hi, Cell.int IntKind.i64 st, Cell.own 1 (List.length P),       Cell.int IntKind.i64 now]     72) (
 .need ((F.hok P ∧ ((0 : Int) ≤ st ∧ st ≤ 100000))) (
 .need (F.lv L = F.lv (F.un (F.lv L))) (
 .need ((F.big (F.un (F.lv L)) ∧ (((0 : Int) ≤ lo ∧ (lo ≤ hi ∧ hi ≤ 100000)) ∧ (((1 : Int) ≤ st ∧ st ≤ 100000) ∧ F.lvls lo hi st ≤ 32)))) (
 cond (!decide (F.entV lo hi st P now cl tm = F.mentV lo hi st (F.un (F.lv L)) la cl tm)) (
  .ret (.fin (.c (.bool false)) [])) (
  cond (!decide (F.entE lo hi st P now cl tm = F.mentE lo hi st (F.un (F.lv L)) la cl tm)) (
   .ret (.fin (.c (.bool false)) [])) (
   .ite (decide (List.length (F.entL lo hi st P now cl tm) = 0)) (
    .need (((0 = 0 ∧ List.length (F.entL lo hi st P now cl tm) = List.length (F.entL lo hi st P now cl tm)) ∧ List.length (F.entL lo hi st P now cl tm) = 0)) (
    .need (F.lv (F.mentL lo hi st (F.un (F.lv L)) la cl tm) = F.lv (F.un (F.lv (F.mentL lo hi st (F.un (F.lv L)) la cl tm)))) (
    .need (((0 = 0 ∧ 0 = List.length (F.entL lo hi st P now cl tm)) ∧ ((0 = 0 ∧ List.length (F.mlst (F.un (F.lv (F.mentL lo hi st (F.un (F.lv L)) la cl tm)))) =   List.length (F.mlst (F.un (F.lv (F.mentL lo hi st (F.un (F.lv L)) la cl tm))))) ∧ (F.entL lo hi st P now cl tm = F.mlst (F.un (F.lv (F.mentL lo hi st (F.un (F.lv L)) la cl tm))) ∧ List.length (F.entL lo hi st P now cl tm) ≤ 100000)))) (
    .need (i64ok (i + 1)) (
    .ret (.cut (cutAt Try.f5 19) ⟨tmG 77 [(10, .c (.ptr 2 0 0)), (1, .c (.ptr 4 0 0)), (97, .c (.slc 0 0 (N) false)), (0, .c (.int .i64 m)), (0, .c (.int .i64 (i + 1)))], [.inp 5 l, .blk [.int .i64 lo, .int .i64 hi, .int .i64 st] 46, .blk [.int .i64 lo, .int .i64 hi, .int .i64 st, .own 3 (List.length (F.entL lo hi st P now cl tm)), .int .i64 (F.entT lo hi st P now cl tm)] 72, .own 1 (F.entL lo hi st P now cl tm) 57, .sarr [.int .i64 lo, .int .i64 hi, .int .i64 st] 1 32 (F.lv (F.mentL lo hi st (F.un (F.lv L)) la cl tm)) [.int .i64 (F.mentT lo hi st (F.un (F.lv L)) la cl tm)] 60]⟩)))))) (
    .need (((0 = 0 ∧ List.length (F.entL lo hi st P now cl tm) = List.length (F.entL lo hi st P now cl tm)) ∧ ((0 : Nat) < List.length (F.entL lo hi st P now cl tm) ∧ List.length (F.entL lo hi st P now cl tm) ≤ 100000))) (
    .need (F.lv (F.mentL lo hi st (F.un (F.lv L)) la cl tm) = F.lv (F.un (F.lv (F.mentL lo hi st (F.un (F.lv L)) la cl tm)))) (
    .need (((0 = 0 ∧ List.length (F.entL lo hi st P now cl tm) = List.length (F.entL lo hi st P now cl tm)) ∧ ((0 = 0 ∧ List.length (F.mlst (F.un (F.lv (F.mentL lo hi st (F.un (F.lv L)) la cl tm)))) =   List.length (F.mlst (F.un (F.lv (F.mentL lo hi st (F.un (F.lv L)) la cl tm))))) ∧ (F.entL lo hi st P now cl tm = F.mlst (F.un (F.lv (F.mentL lo hi st (F.un (F.lv L)) la cl tm))) ∧ List.length (F.entL lo hi st P now cl tm) ≤ 100000)))) (
    .need (i64ok (i + 1)) (
    .ret (.cut (cutAt Try.f5 19) ⟨tmG 77 [(10, .c (.ptr 2 0 0)), (1, .c (.ptr 4 0 0)), (97, .c (.slc 0 0 (N) false)), (0, .c (.int .i64 m)), (0, .c (.int .i64 (i + 1)))], [.inp 5 l, .blk [.int .i64 lo, .int .i64 hi, .int .i64 st] 46, .blk [.int .i64 lo, .int .i64 hi, .int .i64 st, .own 3 (List.length (F.entL lo hi st P now cl tm)), .int .i64 (F.entT lo hi st P now cl tm)] 72, .own 1 (F.entL lo hi st P now cl tm) 57, .sarr [.int .i64 lo, .int .i64 hi, .int .i64 st] 1 32 (F.lv (F.mentL lo hi st (F.un (F.lv L)) la cl tm)) [.int .i64 (F.mentT lo hi st (F.un (F.lv L)) la cl tm)] 60]⟩))))))))))))) (
 cond (decide (kc = 1)) (
  .need ((HObj.blk [Cell.int IntKind.i64 lo, Cell.int IntKind.i64 hi, Cell.int IntKind.i64 st, Cell.own 1 q, Cell.int IntKind.i64 now] 72 : HObj cod) =   HObj.blk     [Cell.int IntKind.i64 lo, Cell.int IntKind.i64 hi, Cell.int IntKind.i64 st, Cell.own 1 (List.length P),       Cell.int IntKind.i64 now]     72) (
  .need ((F.hok P ∧ (((0 : Int) ≤ st ∧ st ≤ 100000) ∧ (0 : Int) ≤ lo))) (
  .need (F.lv L = F.lv (F.un (F.lv L))) (
  .need ((F.mok (F.un (F.lv L)) ∧ ((0 : Int) ≤ st ∧ st ≤ 10000))) (
  cond (!decide (F.downN lo st P now tm = F.mdnN st (F.un (F.lv L)) la tm)) (
   .ret (.fin (.c (.bool false)) [])) (
   cond (!decide (F.downE now tm = F.mdnE la tm)) (
    .ret (.fin (.c (.bool false)) [])) (
    .ite (decide (List.length (F.downL lo st P now tm) = 0)) (
     .need (((0 = 0 ∧ List.length (F.downL lo st P now tm) = List.length (F.downL lo st P now tm)) ∧ List.length (F.downL lo st P now tm) = 0)) (
     .need (F.lv (F.mdnL st (F.un (F.lv L)) la tm) = F.lv (F.un (F.lv (F.mdnL st (F.un (F.lv L)) la tm)))) (
     .need (((0 = 0 ∧ 0 = List.length (F.downL lo st P now tm)) ∧ ((0 = 0 ∧ List.length (F.mlst (F.un (F.lv (F.mdnL st (F.un (F.lv L)) la tm)))) =   List.length (F.mlst (F.un (F.lv (F.mdnL st (F.un (F.lv L)) la tm))))) ∧ (F.downL lo st P now tm = F.mlst (F.un (F.lv (F.mdnL st (F.un (F.lv L)) la tm))) ∧ List.length (F.downL lo st P now tm) ≤ 100000)))) (
     .need (i64ok (i + 1)) (
     .ret (.cut (cutAt Try.f5 19) ⟨tmG 77 [(10, .c (.ptr 2 0 0)), (1, .c (.ptr 4 0 0)), (97, .c (.slc 0 0 (N) false)), (0, .c (.int .i64 m)), (0, .c (.int .i64 (i + 1)))], [.inp 5 l, .blk [.int .i64 lo, .int .i64 hi, .int .i64 st] 46, .blk [.int .i64 lo, .int .i64 hi, .int .i64 st, .own 3 (List.length (F.downL lo st P now tm)), .int .i64 (F.downT now tm)] 72, .own 1 (F.downL lo st P now tm) 57, .sarr [.int .i64 lo, .int .i64 hi, .int .i64 st] 1 32 (F.lv (F.mdnL st (F.un (F.lv L)) la tm)) [.int .i64 (F.mdnT la tm)] 60]⟩)))))) (
     .need (((0 = 0 ∧ List.length (F.downL lo st P now tm) = List.length (F.downL lo st P now tm)) ∧ ((0 : Nat) < List.length (F.downL lo st P now tm) ∧ List.length (F.downL lo st P now tm) ≤ 100000))) (
     .need (F.lv (F.mdnL st (F.un (F.lv L)) la tm) = F.lv (F.un (F.lv (F.mdnL st (F.un (F.lv L)) la tm)))) (
     .need (((0 = 0 ∧ List.length (F.downL lo st P now tm) = List.length (F.downL lo st P now tm)) ∧ ((0 = 0 ∧ List.length (F.mlst (F.un (F.lv (F.mdnL st (F.un (F.lv L)) la tm)))) =   List.length (F.mlst (F.un (F.lv (F.mdnL st (F.un (F.lv L)) la tm))))) ∧ (F.downL lo st P now tm = F.mlst (F.un (F.lv (F.mdnL st (F.un (F.lv L)) la tm))) ∧ List.length (F.downL lo st P now tm) ≤ 100000)))) (
     .need (i64ok (i + 1)) (
     .ret (.cut (cutAt Try.f5 19) ⟨tmG 77 [(10, .c (.ptr 2 0 0)), (1, .c (.ptr 4 0 0)), (97, .c (.slc 0 0 (N) false)), (0, .c (.int .i64 m)), (0, .c (.int .i64 (i + 1)))], [.inp 5 l, .blk [.int .i64 lo, .int .i64 hi, .int .i64 st] 46, .blk [.int .i64 lo, .int .i64 hi, .int .i64 st, .own 3 (List.length (F.downL lo st P now tm)), .int .i64 (F.downT now tm)] 72, .own 1 (F.downL lo st P now tm) 57, .sarr [.int .i64 lo, .int .i64 hi, .int .i64 st] 1 32 (F.lv (F.mdnL st (F.un (F.lv L)) la tm)) [.int .i64 (F.mdnT la tm)] 60]⟩))))))))))))) (
  .need ((HObj.blk [Cell.int IntKind.i64 lo, Cell.int IntKind.i64 hi, Cell.int IntKind.i64 st, Cell.own 1 q, Cell.int IntKind.i64 now] 72 : HObj cod) =   HObj.blk     [Cell.int IntKind.i64 lo, Cell.int IntKind.i64 hi, Cell.int IntKind.i64 st, Cell.own 1 (List.length P),       Cell.int IntKind.i64 now]     72) (
  .need ((F.hok P ∧ (0 : Int) ≤ now)) (
  .need (F.lv L = F.lv (F.un (F.lv L))) (
  .need ((F.big (F.un (F.lv L)) ∧ (F.mok (F.un (F.lv L)) ∧ (0 : Int) ≤ la))) (
  cond (!decide (F.leaV P now cl tm = F.mleaV (F.un (F.lv L)) la cl tm)) (
   .ret (.fin (.c (.bool false)) [])) (
   cond (!decide (F.leaE P now cl tm = F.mleaE (F.un (F.lv L)) la cl tm)) (
    .ret (.fin (.c (.bool false)) [])) (
    .ite (decide (List.length (F.leaL P now cl tm) = 0)) (
     .need (((0 = 0 ∧ List.length (F.leaL P now cl tm) = List.length (F.leaL P now cl tm)) ∧ List.length (F.leaL P now cl tm) = 0)) (
     .need (F.lv (F.mleaL (F.un (F.lv L)) la cl tm) = F.lv (F.un (F.lv (F.mleaL (F.un (F.lv L)) la cl tm)))) (
     .need (((0 = 0 ∧ 0 = List.length (F.leaL P now cl tm)) ∧ ((0 = 0 ∧ List.length (F.mlst (F.un (F.lv (F.mleaL (F.un (F.lv L)) la cl tm)))) =   List.length (F.mlst (F.un (F.lv (F.mleaL (F.un (F.lv L)) la cl tm))))) ∧ (F.leaL P now cl tm = F.mlst (F.un (F.lv (F.mleaL (F.un (F.lv L)) la cl tm))) ∧ List.length (F.leaL P now cl tm) ≤ 100000)))) (
     .need (i64ok (i + 1)) (
     .ret (.cut (cutAt Try.f5 19) ⟨tmG 77 [(10, .c (.ptr 2 0 0)), (1, .c (.ptr 4 0 0)), (97, .c (.slc 0 0 (N) false)), (0, .c (.int .i64 m)), (0, .c (.int .i64 (i + 1)))], [.inp 5 l, .blk [.int .i64 lo, .int .i64 hi, .int .i64 st] 46, .blk [.int .i64 lo, .int .i64 hi, .int .i64 st, .own 3 (List.length (F.leaL P now cl tm)), .int .i64 (F.leaT P now cl tm)] 72, .own 1 (F.leaL P now cl tm) 57, .sarr [.int .i64 lo, .int .i64 hi, .int .i64 st] 1 32 (F.lv (F.mleaL (F.un (F.lv L)) la cl tm)) [.int .i64 (F.mleaT (F.un (F.lv L)) la cl tm)] 60]⟩)))))) (
     .need (((0 = 0 ∧ List.length (F.leaL P now cl tm) = List.length (F.leaL P now cl tm)) ∧ ((0 : Nat) < List.length (F.leaL P now cl tm) ∧ List.length (F.leaL P now cl tm) ≤ 100000))) (
     .need (F.lv (F.mleaL (F.un (F.lv L)) la cl tm) = F.lv (F.un (F.lv (F.mleaL (F.un (F.lv L)) la cl tm)))) (
     .need (((0 = 0 ∧ List.length (F.leaL P now cl tm) = List.length (F.leaL P now cl tm)) ∧ ((0 = 0 ∧ List.length (F.mlst (F.un (F.lv (F.mleaL (F.un (F.lv L)) la cl tm)))) =   List.length (F.mlst (F.un (F.lv (F.mleaL (F.un (F.lv L)) la cl tm))))) ∧ (F.leaL P now cl tm = F.mlst (F.un (F.lv (F.mleaL (F.un (F.lv L)) la cl tm))) ∧ List.length (F.leaL P now cl tm) ≤ 100000)))) (
     .need (i64ok (i + 1)) (
     .ret (.cut (cutAt Try.f5 19) ⟨tmG 77 [(10, .c (.ptr 2 0 0)), (1, .c (.ptr 4 0 0)), (97, .c (.slc 0 0 (N) false)), (0, .c (.int .i64 m)), (0, .c (.int .i64 (i + 1)))], [.inp 5 l, .blk [.int .i64 lo, .int .i64 hi, .int .i64 st] 46, .blk [.int .i64 lo, .int .i64 hi, .int .i64 st, .own 3 (List.length (F.leaL P now cl tm)), .int .i64 (F.leaT P now cl tm)] 72, .own 1 (F.leaL P now cl tm) 57, .sarr [.int .i64 lo, .int .i64 hi, .int .i64 st] 1 32 (F.lv (F.mleaL (F.un (F.lv L)) la cl tm)) [.int .i64 (F.mleaT (F.un (F.lv L)) la cl tm)] 60]⟩)))))))))))))) := by kernel_rfl



theorem hchk_ok {lo hi st : Int} (h : F.hchk lo hi st = 0) : F.okS lo hi st := by
  unfold F.hchk at h
  by_cases c1 : (decide (lo < 0) || (decide (60000 < hi) || (decide (st < 100) || decide (10000 < st)))) = true
  · rw [if_pos c1] at h; cases h
  · rw [if_neg c1] at h
    simp only [Bool.or_eq_true, decide_eq_true_eq, not_or] at c1
    by_cases c2 : hi < lo
    · rw [if_pos c2] at h; cases h
    · rw [if_neg c2] at h
      by_cases c3 : 32 < Int.tdiv (hi - lo) st + 1
      · rw [if_pos c3] at h; cases h
      · exact ⟨by omega, by omega, by omega, by omega, by omega, by unfold F.lvls; omega⟩
theorem hr_start (lo hi st : Int) : F.HR lo hi st [] 0 F.L0 := by
  have hz : F.occ F.hl0 = false := rfl
  refine ⟨?_, fun i h => ?_, fun i h => rfl, fun i h => rfl, by omega⟩
  · symm
    unfold F.mlst
    rw [List.filter_eq_nil_iff]
    intro x hx
    unfold F.lv F.L0 at hx
    obtain ⟨_, _, rfl⟩ := List.mem_map.1 hx
    decide
  · have h' : F.occ F.hl0 = true := h
    rw [hz] at h'
    cases h'
theorem getD_memA {α : Type} {l : List α} {n : Nat} (d : α) (h : n < l.length) : l.getD n d ∈ l := by
  rw [List.getD_eq_getElem?_getD, List.getElem?_eq_getElem h]
  exact List.getElem_mem h
theorem hlaw_run (lo hi st : Int) (l : List (Int × List UInt8 × Int)) (l_t : Bool) (b0 : Base) (hb : b0.n = 1) (h0 : ∀ x ∈ l, Sym.i64ok x.1 ∧ Sym.i64ok x.2.2) : Sym.Runs Try.prog b0 [.code (codeOf Try.f5)] ⟨argsS Try.f5 [.agg [.int .i64 lo, .int .i64 hi, .int .i64 st], .c (.slc 0 0 (List.length l) l_t)], ([.inp 5 l] : Heap cod)⟩ (Sym.Ends Try.prog Try.f5 1 (.c (.bool true)) []) := by
  -- one call
  have step : ∀ (f : Int) (P : List F.HL) (L : Nat → F.HL) (N : Nat) (now : Int) (i : Nat) (kd : Int) (cl : List UInt8) (tm kc : Int), F.okS lo hi st → F.HR lo hi st P now L → i ≤ 100 →
      (∀ (P' : List F.HL) (L' : Nat → F.HL) (now' : Int), F.HR lo hi st P' now' L' → Sym.Runs Try.prog b0 (cutAt Try.f5 19) (st_hlaw_19 lo hi st l l_t f P' L' P'.length N now' now' (N : Int) ((i : Int) + 1)) (Sym.Ends Try.prog Try.f5 1 (.c (.bool true)) [])) →
      Sym.Runs Try.prog b0 (regAt Try.f5 26) (st_hlaw_r26 lo hi st l l_t f P L P.length N now now (N : Int) (i : Int) kd cl tm kc) (Sym.Ends Try.prog Try.f5 1 (.c (.bool true)) []) := by
    intro f P L N now i kd cl tm kc o r hi' nx
    have i1 : Sym.i64ok ((i : Int) + 1) := by unfold Sym.i64ok; omega
    have hun := un_lv r.b
    have hk := hr_hok o r
    have hm := hr_mok o r
    have o1 := o.a
    have o2 := o.b
    have o3 := o.c
    have o4 := o.d
    have o5 := o.e
    have o6 := o.f
    have hnow := r.t
    obtain ⟨a1, a2, ra⟩ := ent_keep o r cl tm
    have a0 := ent_E o r cl tm
    obtain ⟨b0', b1, b2, rb⟩ := down_keep o r tm
    obtain ⟨c0, c1, c2, rc⟩ := lea_keep r cl tm
    have ua := un_lv ra.b
    have ub := un_lv rb.b
    have uc := un_lv rc.b
    have ka := (hr_hok o ra).1
    have kb := (hr_hok o rb).1
    have kcc := (hr_hok o rc).1
    have na := nx _ _ _ ra
    have nb := nx _ _ _ rb
    have nc := nx _ _ _ rc
    have pa := ra.p
    have pb := rb.p
    have pc := rc.p
    refine Runs.go (cfg := C_leql) L_leql_ok mixed cuts_hlaw_r26 400 hb (hlaw_tr26 lo hi st l l_t f P L P.length N now now (N : Int) (i : Int) kd cl tm kc) ?_
    simp only [T.wp, T.wp_cond, Aft, Int.ofNat_eq_natCast, decide_eq_true_eq, and_true, true_and, Nat.zero_add, Bool.not_eq_true', decide_eq_false_iff_not, hun, ua, ub, uc, ← a2, ← b2, ← c2]
    by_cases k0 : kc = 0
    · exact ite_yes k0 ⟨⟨hk, by omega, by omega⟩, ⟨r.b, ⟨by omega, by omega, by omega⟩, ⟨by omega, by omega⟩, o6⟩, ite_no (fun q => q a1) (ite_no (fun q => q a0) ⟨fun e => ⟨e, ⟨e.symm, pa, by omega⟩, i1, na⟩, fun e => ⟨⟨by omega, by omega⟩, ⟨pa, by omega⟩, i1, na⟩⟩)⟩
    refine ite_no k0 ?_
    by_cases k1 : kc = 1
    · exact ite_yes k1 ⟨⟨hk, ⟨by omega, by omega⟩, by omega⟩, ⟨hm, by omega, by omega⟩, ite_no (fun q => q b1) (ite_no (fun q => q b0') ⟨fun e => ⟨e, ⟨e.symm, pb, by omega⟩, i1, nb⟩, fun e => ⟨⟨by omega, by omega⟩, ⟨pb, by omega⟩, i1, nb⟩⟩)⟩
    exact ite_no k1 ⟨⟨hk, by omega⟩, ⟨r.b, hm, by omega⟩, ite_no (fun q => q c1) (ite_no (fun q => q c0) ⟨fun e => ⟨e, ⟨e.symm, pc, by omega⟩, i1, nc⟩, fun e => ⟨⟨by omega, by omega⟩, ⟨pc, by omega⟩, i1, nc⟩⟩)⟩
  -- the calls
  have calls : F.okS lo hi st → ∀ (f : Int) (N : Nat), N ≤ l.length → N ≤ 20 → ∀ (r i : Nat) (P : List F.HL) (L : Nat → F.HL) (now : Int), i + r = N → F.HR lo hi st P now L → Sym.Runs Try.prog b0 (cutAt Try.f5 19) (st_hlaw_19 lo hi st l l_t f P L P.length N now now (N : Int) (i : Int)) (Sym.Ends Try.prog Try.f5 1 (.c (.bool true)) []) := by
    intro o f N hN h20 r
    induction r with
    | zero =>
      intro i P L now hi' hR
      refine Runs.go (cfg := C_leql) L_leql_ok mixed cuts_hlaw 400 hb (hlaw_t19 lo hi st l l_t f P L P.length N now now (N : Int) (i : Int)) ?_
      simp only [T.wp, T.wp_cond, Aft, Int.ofNat_eq_natCast, decide_eq_true_eq, and_true, true_and, Nat.zero_add, Bool.not_eq_true', decide_eq_false_iff_not]
      exact ite_no (by omega) trivial
    | succ r ih =>
      intro i P L now hi' hR
      refine Runs.go (cfg := C_leql) L_leql_ok mixed cuts_hlaw 400 hb (hlaw_t19 lo hi st l l_t f P L P.length N now now (N : Int) (i : Int)) ?_
      have nx : ∀ (P' : List F.HL) (L' : Nat → F.HL) (now' : Int), F.HR lo hi st P' now' L' → Sym.Runs Try.prog b0 (cutAt Try.f5 19) (st_hlaw_19 lo hi st l l_t f P' L' P'.length N now' now' (N : Int) ((i : Int) + 1)) (Sym.Ends Try.prog Try.f5 1 (.c (.bool true)) []) := by
        intro P' L' now' h1
        have := ih (i + 1) P' L' now' (by omega) h1
        rw [show ((i + 1 : Nat) : Int) = (i : Int) + 1 by omega] at this
        exact this
      have hlt' : (i : Int) < (N : Int) := by omega
      have hk := h0 (l.getD i (cod 5).d) (getD_memA _ (by omega))
      simp only [T.wp, T.wp_cond, Aft, Int.ofNat_eq_natCast, decide_eq_true_eq, and_true, true_and, Nat.zero_add, Bool.not_eq_true', decide_eq_false_iff_not, Nat.zero_add, Int.toNat_natCast]
      generalize l.getD i (cod 5).d = x at *
      obtain ⟨kd, cl, tm⟩ := x
      exact ite_yes hlt' ⟨⟨by omega, hlt'⟩, by omega, ⟨by decide, by decide, by decide, hk.1⟩, step f P L N now i kd cl tm _ o hR (by omega) nx⟩
  have r17 : F.okS lo hi st → ∀ f : Int, Sym.Runs Try.prog b0 (regAt Try.f5 17) (st_hlaw_r17 lo hi st l l_t f) (Sym.Ends Try.prog Try.f5 1 (.c (.bool true)) []) := by
    intro o f
    refine Runs.made 2 3 1 57 rfl rfl (st' := st_hlaw_r17b lo hi st l l_t f) rfl ?_
    refine Runs.go (cfg := C_leql) L_leql_ok mixed cuts_hlaw_r17b 400 hb (hlaw_tr17b lo hi st l l_t f) ?_
    simp only [T.wp, T.wp_cond, Aft, Int.ofNat_eq_natCast, decide_eq_true_eq, and_true, true_and, Nat.zero_add, Bool.not_eq_true', decide_eq_false_iff_not]
    refine Runs.sarr 4 1 32 hb (by decide) [.int .i64 lo, .int .i64 hi, .int .i64 st] (F.lv F.L0) [.int .i64 0] 60 (by kernel_rfl) (lv_len _) rfl (st' := st_hlaw_r18b lo hi st l l_t f) (by kernel_rfl) ?_
    refine Runs.go (cfg := C_leql) L_leql_ok mixed cuts_hlaw_r18b 400 hb (hlaw_tr18b lo hi st l l_t f) ?_
    simp only [T.wp, T.wp_cond, Aft, Int.ofNat_eq_natCast, decide_eq_true_eq, and_true, true_and, Nat.zero_add, Bool.not_eq_true', decide_eq_false_iff_not]
    have h9 := calls o f (Int.toNat (min (Int.ofNat (List.length l)) 20)) (by simp only [Int.ofNat_eq_natCast]; omega) (by simp only [Int.ofNat_eq_natCast]; omega) _ 0 [] F.L0 0 (Nat.zero_add _) (hr_start lo hi st)
    exact ⟨⟨by omega, by omega⟩, h9⟩
  have r14 : ∀ f : Int, f = F.hchk lo hi st → Sym.Runs Try.prog b0 (regAt Try.f5 14) (st_hlaw_r14 lo hi st l l_t f) (Sym.Ends Try.prog Try.f5 1 (.c (.bool true)) []) := by
    intro f hf
    refine Runs.go (cfg := C_leql) L_leql_ok mixed cuts_hlaw_r14 400 hb (hlaw_tr14 lo hi st l l_t f) ?_
    simp only [T.wp, T.wp_cond, Aft, Int.ofNat_eq_natCast, decide_eq_true_eq, and_true, true_and, Nat.zero_add, Bool.not_eq_true', decide_eq_false_iff_not]
    refine ⟨fun q => ⟨q, ?_⟩, fun q => ⟨q, ?_⟩⟩
    · have hf0 : f = 0 := hf.trans q
      exact ite_no (fun z => z hf0.symm) (ite_no (fun z => z hf.symm) (ite_no (fun z => z hf0) (r17 (hchk_ok q) f)))
    · have hf0 : ¬ f = 0 := fun z => q (hf.symm.trans z)
      exact ite_no (fun z => z hf.symm) (ite_no (fun z => z hf.symm) (ite_yes hf0 (ite_yes hf.symm (ite_yes hf.symm trivial))))
  have e0 : F.hchk 3000 5000 1000 = 0 := by decide
  refine Runs.go (cfg := C_leql) L_leql_ok mixed cuts_hlaw 400 hb (hlaw_t0 lo hi st l l_t ) ?_
  simp only [T.wp, T.wp_cond, Aft, Int.ofNat_eq_natCast, decide_eq_true_eq, and_true, true_and, Nat.zero_add, Bool.not_eq_true', decide_eq_false_iff_not]
  refine ⟨fun _ => ⟨e0, ?_⟩, fun q => absurd e0 q⟩
  refine Runs.made 2 3 1 57 rfl rfl (st' := st_hlaw_r4b lo hi st l l_t) rfl ?_
  refine Runs.go (cfg := C_leql) L_leql_ok mixed cuts_hlaw_r4b 400 hb (hlaw_tr4b lo hi st l l_t ) ?_
  simp only [T.wp, T.wp_cond, Aft, Int.ofNat_eq_natCast, decide_eq_true_eq, and_true, true_and, Nat.zero_add, Bool.not_eq_true', decide_eq_false_iff_not]
  refine ⟨⟨⟨by decide, fun x hx => absurd hx List.not_mem_nil⟩, by decide, by decide⟩, ?_⟩
  refine Runs.go (cfg := C_leql) L_leql_ok mixed cuts_hlaw_r7 400 hb (hlaw_tr7 lo hi st l l_t ) ?_
  have ib : F.inb st 100 10000 = (decide (100 ≤ st) && decide (st ≤ 10000)) := rfl
  simp only [T.wp, T.wp_cond, Aft, Int.ofNat_eq_natCast, decide_eq_true_eq, and_true, true_and, Nat.zero_add, Bool.not_eq_true', decide_eq_false_iff_not]
  by_cases c1 : lo < 0
  · exact ite_yes c1 (r14 4 (by unfold F.hchk; rw [decide_eq_true c1]; rfl))
  refine ite_no c1 ?_
  by_cases c2 : 60000 < hi
  · exact ite_yes c2 (r14 4 (by unfold F.hchk; rw [decide_eq_false c1, decide_eq_true c2]; rfl))
  refine ite_no c2 ?_
  cases c3 : F.inb st 100 10000 with
  | false =>
    refine ite_yes rfl (r14 4 ?_)
    rw [ib, Bool.and_eq_false_iff, decide_eq_false_iff_not, decide_eq_false_iff_not] at c3
    unfold F.hchk
    rw [if_pos (by simp; omega)]
  | true =>
  rw [ib, Bool.and_eq_true, decide_eq_true_eq, decide_eq_true_eq] at c3
  have hn : ¬ (decide (lo < 0) || (decide (60000 < hi) || (decide (st < 100) || decide (10000 < st)))) = true := by simp; omega
  refine ite_no (by decide) ?_
  by_cases c4 : hi < lo
  · exact ite_yes c4 (r14 3 (by unfold F.hchk; rw [if_neg hn, if_pos c4]))
  have hd := Int.tdiv_nonneg (a := hi - lo) (b := st) (by omega) (by omega)
  have hd2 : Int.tdiv (hi - lo) st ≤ hi - lo := by
    rw [Int.tdiv_eq_ediv_of_nonneg (by omega)]
    exact Int.ediv_le_self _ (by omega)
  refine ite_no c4 ⟨by unfold Sym.i64ok; omega, by omega, by unfold Sym.i64ok; omega, ?_⟩
  by_cases c5 : 32 ≤ Int.tdiv (hi - lo) st
  · exact ite_yes c5 (r14 2 (by unfold F.hchk; rw [if_neg hn, if_neg c4, if_pos (by omega)]))
  · exact ite_no c5 (r14 0 (by unfold F.hchk; rw [if_neg hn, if_neg c4, if_neg (by omega)]))



noncomputable def s_hlaw : Summ cod := fun args H => match args, H with
  | [.agg [.int .i64 lo, .int .i64 hi, .int .i64 st], .c (.slc 0 l_i l_n l_t)], [o0] => (match o0.asInp 5 with | some l => .need ((l_i = 0 ∧ l_n = List.length l) ∧ (∀ x ∈ l, Sym.i64ok x.1 ∧ Sym.i64ok x.2.2)) (.ret (.c (.bool true), [])) | none => .fail)
  | _, _ => .fail


theorem hlaw_sound : Sound Try.prog cod 5 s_hlaw := sound_runs (cfg := C_leql) L_leql_ok mixed Try.func5 rfl rfl _ fun args H r news hg b0 hb => by
  unfold s_hlaw at hg
  split at hg
  · skip
    split at hg
    · rename_i l hx0
      cases asInp_spec hx0
      simp only [T.gives, T.wp, Prod.mk.injEq] at hg
      obtain ⟨⟨⟨rfl, rfl⟩, q1⟩, rfl, rfl⟩ := hg
      exact hlaw_run _ _ _ _ _ b0 hb (by assumption)
    · exact hg.elim
  · exact hg.elim

noncomputable def L_hlaw : Sums cod := (5, .p s_hlaw) :: L_leql
noncomputable def C_hlaw : Cfg cod := mkC L_hlaw

theorem L_hlaw_ok : Snd Try.prog cod L_hlaw := .cons hlaw_sound L_leql_ok


end
end Go.Proofs.Ytgmnfdmlidhbcaa
