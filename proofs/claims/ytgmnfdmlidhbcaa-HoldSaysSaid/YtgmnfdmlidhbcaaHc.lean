/- Part of a claim: lemmas on the way to its theorem; each states its own conditions. -/
import Derived.Test.YtgmnfdmlidhbcaaBd27
import Derived.Test.YtgmnfdmlidhbcaaBd28
import Derived.Test.YtgmnfdmlidhbcaaSym34
import Derived.Test.YtgmnfdmlidhbcaaBd30
namespace Go.Proofs.Ytgmnfdmlidhbcaa
open Sym Go.RowKit
noncomputable section
set_option maxRecDepth 100000
set_option maxHeartbeats 4000000



namespace F
def hchk (lo hi st : Int) : Int := if decide (lo < 0) || (decide (60000 < hi) || (decide (st < 100) || decide (10000 < st))) then 4 else (if hi < lo then 3 else (if 32 < Int.tdiv (hi - lo) st + 1 then 2 else 0))
def wrn (now t : Int) : Bool := decide (t < now) || decide (200000 < t)
def ixG (c : List UInt8) : List HL → Int → Int
  | [], _ => -1
  | p :: r, i => if p.1 = c then i else ixG c r (i + 1)
def ixc (l : List HL) (c : List UInt8) : Int := ixG c l 0
end F


def cuts_hchk : Cuts := []

theorem hchk_t0 (lo hi st : Int) : symF C_hfind cuts_hchk Try.f19.results.toList 0 400 [.code (codeOf Try.f19)] ⟨argsS Try.f19 [.agg [.int .i64 lo, .int .i64 hi, .int .i64 st]], ([] : Heap cod)⟩ =
 cond (decide (lo < 0)) (
 .ret (.fin (.c (.int .i64 4)) [])) (
 cond (decide (60000 < hi)) (
  .ret (.fin (.c (.int .i64 4)) [])) (
  cond (decide (st < 100)) (
   .ret (.fin (.c (.int .i64 4)) [])) (
   cond (decide (10000 < st)) (
    .ret (.fin (.c (.int .i64 4)) [])) (
    cond (decide (hi < lo)) (
     .ret (.fin (.c (.int .i64 3)) [])) (
     .need (i64ok (hi - lo)) (
     .need (st ≠ 0) (
     .need (i64ok (Int.tdiv (hi - lo) st)) (
     .need (i64ok (Int.tdiv (hi - lo) st + 1)) (
     cond (decide (32 < Int.tdiv (hi - lo) st + 1)) (
      .ret (.fin (.c (.int .i64 2)) [])) (
      .ret (.fin (.c (.int .i64 0)) []))))))))))) := by kernel_rfl



theorem hchk_run (lo hi st : Int) (b0 : Base) (hb : b0.n = 0)  : Sym.Runs Try.prog b0 [.code (codeOf Try.f19)] ⟨argsS Try.f19 [.agg [.int .i64 lo, .int .i64 hi, .int .i64 st]], ([] : Heap cod)⟩ (Sym.Ends Try.prog Try.f19 0 (.c (.int .i64 (F.hchk lo hi st))) []) := by
  refine Runs.go (cfg := C_hfind) L_hfind_ok mixed cuts_hchk 400 hb (hchk_t0 lo hi st) ?_
  unfold F.hchk
  simp only [T.wp, T.wp_cond, Aft, Int.ofNat_eq_natCast, decide_eq_true_eq, and_true, true_and, Nat.zero_add, Bool.not_eq_true', decide_eq_false_iff_not]
  by_cases h1 : lo < 0 <;> by_cases h2 : 60000 < hi <;> by_cases h3 : st < 100 <;> by_cases h4 : 10000 < st <;> simp only [h1, h2, h3, h4, if_true, if_false, decide_true, decide_false, Bool.true_or, Bool.or_true, Bool.false_or, Bool.or_false, Bool.false_eq_true]
  by_cases h5 : hi < lo
  · simp only [h5, if_true]
  · simp only [h5, if_false]
    have hd := Int.tdiv_nonneg (a := hi - lo) (b := st) (by omega) (by omega)
    have hd2 : Int.tdiv (hi - lo) st ≤ hi - lo := by
      rw [Int.tdiv_eq_ediv_of_nonneg (by omega)]
      exact Int.ediv_le_self _ (by omega)
    refine ⟨by unfold Sym.i64ok; omega, by omega, by unfold Sym.i64ok; omega, ?_⟩
    by_cases h6 : 32 < Int.tdiv (hi - lo) st + 1
    · simp only [h6, if_true]
      exact ⟨by unfold Sym.i64ok; omega, trivial⟩
    · simp only [h6, if_false]
      exact ⟨by unfold Sym.i64ok; omega, trivial⟩



noncomputable def s_hchk : Summ cod := fun args H => match args, H with
  | [.agg [.int .i64 lo, .int .i64 hi, .int .i64 st]], [] => .ret (.c (.int .i64 (F.hchk lo hi st)), [])
  | _, _ => .fail


theorem hchk_sound : Sound Try.prog cod 19 s_hchk := sound_runs (cfg := C_hfind) L_hfind_ok mixed Try.func19 rfl rfl _ fun args H r news hg b0 hb => by
  unfold s_hchk at hg
  split at hg
  · skip
    cases hg
    exact hchk_run _ _ _ b0 hb 
  · exact hg.elim

noncomputable def L_hchk : Sums cod := (19, .p s_hchk) :: L_hfind
noncomputable def C_hchk : Cfg cod := mkC L_hchk

theorem L_hchk_ok : Snd Try.prog cod L_hchk := .cons hchk_sound L_hfind_ok



def cuts_hnew1 : Cuts := []

theorem hnew1_t0 (lo hi st : Int) : symF C_hchk cuts_hnew1 Try.f16.results.toList 0 400 [.code (codeOf Try.f16)] ⟨argsS Try.f16 [.agg [.int .i64 lo, .int .i64 hi, .int .i64 st]], ([] : Heap cod)⟩ =
 cond (!decide (F.hchk lo hi st = 0)) (
 .ret (.fin (.tup [.c (.raw (Value.pointer none)), .c (.int .i64 (F.hchk lo hi st))]) [])) (
 .ret (.fin (.tup [.c (.ptr 0 0 0), .c (.int .i64 0)]) [.blk [.int .i64 lo, .int .i64 hi, .int .i64 st, .nil, .int .i64 0] 72])) := by kernel_rfl



theorem hnew1_run (lo hi st : Int) (b0 : Base) (hb : b0.n = 0) (h0 : F.hchk lo hi st = 0) : Sym.Runs Try.prog b0 [.code (codeOf Try.f16)] ⟨argsS Try.f16 [.agg [.int .i64 lo, .int .i64 hi, .int .i64 st]], ([] : Heap cod)⟩ (Sym.Ends Try.prog Try.f16 0 (.tup [.c (.ptr 0 0 0), .c (.int .i64 0)]) [.blk [.int .i64 lo, .int .i64 hi, .int .i64 st, .nil, .int .i64 0] 72]) := by
  refine Runs.go (cfg := C_hchk) L_hchk_ok mixed cuts_hnew1 400 hb (hnew1_t0 lo hi st) ?_
  simp only [T.wp, T.wp_cond, Aft, Int.ofNat_eq_natCast, decide_eq_true_eq, and_true, true_and, Nat.zero_add, Bool.not_eq_true', decide_eq_false_iff_not]
  exact ite_no (fun q => q h0) trivial



noncomputable def s_hnew1 : Summ cod := fun args H => match args, H with
  | [.agg [.int .i64 lo, .int .i64 hi, .int .i64 st]], [] => .need ((F.hchk lo hi st = 0)) (.ret (.tup [.c (.ptr 0 0 0), .c (.int .i64 0)], [.blk [.int .i64 lo, .int .i64 hi, .int .i64 st, .nil, .int .i64 0] 72]))
  | _, _ => .fail


theorem hnew1_sound : Sound Try.prog cod 16 s_hnew1 := sound_runs (cfg := C_hchk) L_hchk_ok mixed Try.func16 rfl rfl _ fun args H r news hg b0 hb => by
  unfold s_hnew1 at hg
  split at hg
  · skip
    simp only [T.gives, T.wp, Prod.mk.injEq] at hg
    obtain ⟨q0, rfl, rfl⟩ := hg
    exact hnew1_run _ _ _ b0 hb (by assumption)
  · exact hg.elim

noncomputable def L_hnew1 : Sums cod := (16, .p s_hnew1) :: L_hchk
noncomputable def C_hnew1 : Cfg cod := mkC L_hnew1

theorem L_hnew1_ok : Snd Try.prog cod L_hnew1 := .cons hnew1_sound L_hchk_ok



def cuts_hnew0 : Cuts := []

theorem hnew0_t0 (lo hi st : Int) : symF C_hnew1 cuts_hnew0 Try.f16.results.toList 0 400 [.code (codeOf Try.f16)] ⟨argsS Try.f16 [.agg [.int .i64 lo, .int .i64 hi, .int .i64 st]], ([] : Heap cod)⟩ =
 cond (!decide (F.hchk lo hi st = 0)) (
 .ret (.fin (.tup [.c (.raw (Value.pointer none)), .c (.int .i64 (F.hchk lo hi st))]) [])) (
 .ret (.fin (.tup [.c (.ptr 0 0 0), .c (.int .i64 0)]) [.blk [.int .i64 lo, .int .i64 hi, .int .i64 st, .nil, .int .i64 0] 72])) := by kernel_rfl



theorem hnew0_run (lo hi st : Int) (b0 : Base) (hb : b0.n = 0) (h0 : F.hchk lo hi st ≠ 0) : Sym.Runs Try.prog b0 [.code (codeOf Try.f16)] ⟨argsS Try.f16 [.agg [.int .i64 lo, .int .i64 hi, .int .i64 st]], ([] : Heap cod)⟩ (Sym.Ends Try.prog Try.f16 0 (.tup [.c (.raw (.pointer none)), .c (.int .i64 (F.hchk lo hi st))]) []) := by
  refine Runs.go (cfg := C_hnew1) L_hnew1_ok mixed cuts_hnew0 400 hb (hnew0_t0 lo hi st) ?_
  simp only [T.wp, T.wp_cond, Aft, Int.ofNat_eq_natCast, decide_eq_true_eq, and_true, true_and, Nat.zero_add, Bool.not_eq_true', decide_eq_false_iff_not]
  exact ite_yes h0 trivial



noncomputable def s_hnew0 : Summ cod := fun args H => match args, H with
  | [.agg [.int .i64 lo, .int .i64 hi, .int .i64 st]], [] => .need ((F.hchk lo hi st ≠ 0)) (.ret (.tup [.c (.raw (.pointer none)), .c (.int .i64 (F.hchk lo hi st))], []))
  | _, _ => .fail


theorem hnew0_sound : Sound Try.prog cod 16 s_hnew0 := sound_runs (cfg := C_hnew1) L_hnew1_ok mixed Try.func16 rfl rfl _ fun args H r news hg b0 hb => by
  unfold s_hnew0 at hg
  split at hg
  · skip
    simp only [T.gives, T.wp, Prod.mk.injEq] at hg
    obtain ⟨q0, rfl, rfl⟩ := hg
    exact hnew0_run _ _ _ b0 hb (by assumption)
  · exact hg.elim

noncomputable def L_hnew0 : Sums cod := (16, .p s_hnew0) :: L_hnew1
noncomputable def C_hnew0 : Cfg cod := mkC L_hnew0

theorem L_hnew0_ok : Snd Try.prog cod L_hnew0 := .cons hnew0_sound L_hnew1_ok



noncomputable def s_hnew : Summ cod := fun args H => match args with
  | [.agg [.int .i64 lo, .int .i64 hi, .int .i64 st]] => .ite (decide (F.hchk lo hi st = 0)) (s_hnew1 args H) (s_hnew0 args H)
  | _ => .fail


theorem hnew_sound : Sound Try.prog cod 16 s_hnew := by
  refine ⟨hnew1_sound.enters, fun args H env w vs r news hro G ha hg => ?_⟩
  unfold s_hnew at hg
  split at hg
  · rename_i lo hi st
    by_cases c : F.hchk lo hi st = 0
    · exact hnew1_sound.calls _ H env w vs r news hro G ha (hg.1 (by simp [c]))
    · exact hnew0_sound.calls _ H env w vs r news hro G ha (hg.2 (by simp [c]))
  · exact hg.elim

noncomputable def L_hnew : Sums cod := (16, .p s_hnew) :: L_hnew0
noncomputable def C_hnew : Cfg cod := mkC L_hnew

theorem L_hnew_ok : Snd Try.prog cod L_hnew := .cons hnew_sound L_hnew0_ok



def cuts_hwr : Cuts := []

theorem hwr_t0 (lo hi st : Int) (l : List (List UInt8 × Int × Int)) (l_t : Bool) (now : Int) (t : Int) : symF C_hnew cuts_hwr Try.f33.results.toList 2 400 [.code (codeOf Try.f33)] ⟨argsS Try.f33 [.c (.ptr 0 0 0), .c (.int .i64 t)], ([.rblk [.int .i64 lo, .int .i64 hi, .int .i64 st, .slc 1 0 (List.length l) l_t, .int .i64 now], .inp 1 l] : Heap cod)⟩ =
 cond (decide (t < now)) (
 .ret (.fin (.c (.bool true)) [])) (
 .ret (.fin (.c (.bool (decide (200000 < t)))) [])) := by kernel_rfl



theorem hwr_run (lo hi st : Int) (l : List (List UInt8 × Int × Int)) (l_t : Bool) (now : Int) (t : Int) (b0 : Base) (hb : b0.n = 2)  : Sym.Runs Try.prog b0 [.code (codeOf Try.f33)] ⟨argsS Try.f33 [.c (.ptr 0 0 0), .c (.int .i64 t)], ([.rblk [.int .i64 lo, .int .i64 hi, .int .i64 st, .slc 1 0 (List.length l) l_t, .int .i64 now], .inp 1 l] : Heap cod)⟩ (Sym.Ends Try.prog Try.f33 2 (.c (.bool (F.wrn now t))) []) := by
  refine Runs.go (cfg := C_hnew) L_hnew_ok mixed cuts_hwr 400 hb (hwr_t0 lo hi st l l_t now t) ?_
  unfold F.wrn
  simp only [T.wp, T.wp_cond, Aft, Int.ofNat_eq_natCast, decide_eq_true_eq, and_true, true_and, Nat.zero_add, Bool.not_eq_true', decide_eq_false_iff_not]
  by_cases h1 : t < now <;> simp [h1]



noncomputable def s_hwr : Summ cod := fun args H => match args, H with
  | [.c (.ptr 0 0 0), .c (.int .i64 t)], [.rblk [.int .i64 lo, .int .i64 hi, .int .i64 st, .slc 1 l_i l_n l_t, .int .i64 now], o1] => (match o1.asInp 1 with | some l => .need ((l_i = 0 ∧ l_n = List.length l)) (.ret (.c (.bool (F.wrn now t)), [])) | none => .fail)
  | _, _ => .fail


theorem hwr_sound : Sound Try.prog cod 33 s_hwr := sound_runs (cfg := C_hnew) L_hnew_ok mixed Try.func33 rfl rfl _ fun args H r news hg b0 hb => by
  unfold s_hwr at hg
  split at hg
  · skip
    split at hg
    · rename_i l hx1
      cases asInp_spec hx1
      simp only [T.gives, T.wp, Prod.mk.injEq] at hg
      obtain ⟨⟨rfl, rfl⟩, rfl, rfl⟩ := hg
      exact hwr_run _ _ _ _ _ _ _ b0 hb 
    · exact hg.elim
  · exact hg.elim

noncomputable def L_hwr : Sums cod := (33, .p s_hwr) :: L_hnew
noncomputable def C_hwr : Cfg cod := mkC L_hwr

theorem L_hwr_ok : Snd Try.prog cod L_hwr := .cons hwr_sound L_hnew_ok



def cuts_hix1 : Cuts := []

theorem hix1_t0 (a1 : List UInt8) (a2 a3 : Int) (c : List UInt8) : symF C_hwr cuts_hix1 Try.f43.results.toList 1 400 [.code (codeOf Try.f43)] ⟨argsS Try.f43 [.agg [.str a1, .int .i64 a2, .int .i64 a3], .c (.ptr 0 0 0)], ([.rblk [.str c]] : Heap cod)⟩ =
.ret (.fin (.c (.bool (decide (a1 = c)))) []) := by kernel_rfl



theorem hix1_run (a1 : List UInt8) (a2 a3 : Int) (c : List UInt8) (b0 : Base) (hb : b0.n = 1)  : Sym.Runs Try.prog b0 [.code (codeOf Try.f43)] ⟨argsS Try.f43 [.agg [.str a1, .int .i64 a2, .int .i64 a3], .c (.ptr 0 0 0)], ([.rblk [.str c]] : Heap cod)⟩ (Sym.Ends Try.prog Try.f43 1 (.c (.bool (decide (a1 = c)))) []) := by
  refine Runs.go (cfg := C_hwr) L_hwr_ok mixed cuts_hix1 400 hb (hix1_t0 a1 a2 a3 c) ?_
  simp only [T.wp, T.wp_cond, Aft, Int.ofNat_eq_natCast, decide_eq_true_eq, and_true, true_and, Nat.zero_add, Bool.not_eq_true', decide_eq_false_iff_not]



noncomputable def s_hix1 : Summ cod := fun args H => match args, H with
  | [.agg [.str a1, .int .i64 a2, .int .i64 a3], .c (.ptr 0 0 0)], [.rblk [.str c]] => .ret (.c (.bool (decide (a1 = c))), [])
  | _, _ => .fail


theorem hix1_sound : Sound Try.prog cod 43 s_hix1 := sound_runs (cfg := C_hwr) L_hwr_ok mixed Try.func43 rfl rfl _ fun args H r news hg b0 hb => by
  unfold s_hix1 at hg
  split at hg
  · skip
    cases hg
    exact hix1_run _ _ _ _ b0 hb 
  · exact hg.elim

noncomputable def L_hix1 : Sums cod := (43, .p s_hix1) :: L_hwr
noncomputable def C_hix1 : Cfg cod := mkC L_hix1

theorem L_hix1_ok : Snd Try.prog cod L_hix1 := .cons hix1_sound L_hwr_ok



def cuts_hixF : Cuts := [(2, [0, 1, 7, 8], 2)]

theorem hixF_t0 (l : List (List UInt8 × Int × Int)) (l_t : Bool) (c : List UInt8) : symF C_hix1 cuts_hixF Try.f42.results.toList 2 400 [.code (codeOf Try.f42)] ⟨argsS Try.f42 [.c (.slc 0 0 (List.length l) l_t), .c (.fn 43 [(1, 0, 0)])], ([.inp 1 l, .rblk [.str c]] : Heap cod)⟩ =
.ret (.cut (cutAt Try.f42 2) ⟨tmG 10 [(0, .c (.slc 0 0 (List.length l) l_t)), (0, .c (.fn 43 [(1, 0, 0)])), (5, .c (.int .i64 (Int.ofNat (List.length l)))), (0, .c (.int .i64 0))], [.inp 1 l, .rblk [.str c]]⟩) := by kernel_rfl


noncomputable def st_hixF_2 (l : List (List UInt8 × Int × Int)) (l_t : Bool) (c : List UInt8) (i : Int) : St cod := ⟨tmG 10 [(0, .c (.slc 0 0 (List.length l) l_t)), (0, .c (.fn 43 [(1, 0, 0)])), (5, .c (.int .i64 (Int.ofNat (List.length l)))), (0, .c (.int .i64 i))], [.inp 1 l, .rblk [.str c]]⟩


theorem hixF_t2 (l : List (List UInt8 × Int × Int)) (l_t : Bool) (c : List UInt8) (i : Int) : symF C_hix1 cuts_hixF Try.f42.results.toList 2 400 (cutAt Try.f42 2) (st_hixF_2 l l_t c i) =
 cond (decide (i < Int.ofNat (List.length l))) (
 .need (((0 : Int) ≤ i ∧ i < Int.ofNat (List.length l))) (
 .need (0 + Int.toNat i < List.length l) (
 cond (decide ((List.getD l (0 + Int.toNat i) (cod 1).d).1 = c)) (
  .ret (.fin (.c (.int .i64 i)) [])) (
  .need (i64ok (i + 1)) (
  .ret (.cut (cutAt Try.f42 2) ⟨tmG 10 [(0, .c (.slc 0 0 (List.length l) l_t)), (0, .c (.fn 43 [(1, 0, 0)])), (5, .c (.int .i64 (Int.ofNat (List.length l)))), (0, .c (.int .i64 (i + 1)))], [.inp 1 l, .rblk [.str c]]⟩)))))) (
 .ret (.fin (.c (.int .i64 (-1))) [])) := by kernel_rfl



theorem hixF_run (l : List (List UInt8 × Int × Int)) (l_t : Bool) (c : List UInt8) (b0 : Base) (hb : b0.n = 2) (h0 : List.length l ≤ 1000000) : Sym.Runs Try.prog b0 [.code (codeOf Try.f42)] ⟨argsS Try.f42 [.c (.slc 0 0 (List.length l) l_t), .c (.fn 43 [(1, 0, 0)])], ([.inp 1 l, .rblk [.str c]] : Heap cod)⟩ (Sym.Ends Try.prog Try.f42 2 (.c (.int .i64 (F.ixc l c))) []) := by
  have key : ∀ (m : Nat) (i : Int), 0 ≤ i → i + m = l.length → F.ixc l c = F.ixG c (l.drop i.toNat) i →
      Sym.Runs Try.prog b0 (cutAt Try.f42 2) (st_hixF_2 l l_t c i) (Sym.Ends Try.prog Try.f42 2 (.c (.int .i64 (F.ixc l c))) []) := by
    intro m
    induction m with
    | zero =>
      intro i hi hm hR
      refine Runs.go (cfg := C_hix1) L_hix1_ok mixed cuts_hixF 400 hb (hixF_t2 l l_t c i) ?_
      have h1 : ¬ i < (l.length : Int) := by omega
      rw [drop_end l h1] at hR
      simp only [T.wp, T.wp_cond, Aft, Int.ofNat_eq_natCast, decide_eq_true_eq, and_true, true_and, Nat.zero_add, Bool.not_eq_true', decide_eq_false_iff_not]
      refine ite_no h1 ?_
      rw [hR]
      rfl
    | succ m ih =>
      intro i hi hm hR
      refine Runs.go (cfg := C_hix1) L_hix1_ok mixed cuts_hixF 400 hb (hixF_t2 l l_t c i) ?_
      have h1 : i < (l.length : Int) := by omega
      rw [drop_at l (cod 1).d hi h1] at hR
      have nx := ih (i + 1) (by omega) (by omega)
      simp only [T.wp, T.wp_cond, Aft, Int.ofNat_eq_natCast, decide_eq_true_eq, and_true, true_and, Nat.zero_add, Bool.not_eq_true', decide_eq_false_iff_not, Nat.zero_add]
      generalize l.getD i.toNat (cod 1).d = p at *
      refine ite_yes h1 ⟨⟨hi, h1⟩, by omega, ?_⟩
      by_cases e : p.1 = c
      · refine ite_yes e ?_
        rw [hR, F.ixG, if_pos e]
      · refine ite_no e ⟨by unfold Sym.i64ok; omega, nx ?_⟩
        rw [hR, F.ixG, if_neg e]
  refine Runs.go (cfg := C_hix1) L_hix1_ok mixed cuts_hixF 400 hb (hixF_t0 l l_t c) ?_
  simp only [T.wp, T.wp_cond, Aft, Int.ofNat_eq_natCast, decide_eq_true_eq, and_true, true_and, Nat.zero_add, Bool.not_eq_true', decide_eq_false_iff_not]
  exact key l.length 0 (by omega) (by omega) rfl



noncomputable def s_hixF : Summ cod := fun args H => match args, H with
  | [.c (.slc 0 l_i l_n l_t), .c (.fn 43 [(1, 0, 0)])], [o0, .rblk [.str c]] => (match o0.asInp 1 with | some l => .need ((l_i = 0 ∧ l_n = List.length l) ∧ (List.length l ≤ 1000000)) (.ret (.c (.int .i64 (F.ixc l c)), [])) | none => .fail)
  | _, _ => .fail


theorem hixF_sound : Sound Try.prog cod 42 s_hixF := sound_runs (cfg := C_hix1) L_hix1_ok mixed Try.func42 rfl rfl _ fun args H r news hg b0 hb => by
  unfold s_hixF at hg
  split at hg
  · skip
    split at hg
    · rename_i l hx0
      cases asInp_spec hx0
      simp only [T.gives, T.wp, Prod.mk.injEq] at hg
      obtain ⟨⟨⟨rfl, rfl⟩, q1⟩, rfl, rfl⟩ := hg
      exact hixF_run _ _ _ b0 hb (by assumption)
    · exact hg.elim
  · exact hg.elim

noncomputable def L_hixF : Sums cod := (42, .p s_hixF) :: L_hix1
noncomputable def C_hixF : Cfg cod := mkC L_hixF

theorem L_hixF_ok : Snd Try.prog cod L_hixF := .cons hixF_sound L_hix1_ok



def cuts_hix : Cuts := []

theorem hix_t0 (lo hi st : Int) (l : List (List UInt8 × Int × Int)) (l_t : Bool) (now : Int) (c : List UInt8) : symF C_hixF cuts_hix Try.f32.results.toList 2 400 [.code (codeOf Try.f32)] ⟨argsS Try.f32 [.c (.ptr 0 0 0), .c (.str c)], ([.rblk [.int .i64 lo, .int .i64 hi, .int .i64 st, .slc 1 0 (List.length l) l_t, .int .i64 now], .inp 1 l] : Heap cod)⟩ =
.need (((0 = 0 ∧ List.length l = List.length l) ∧ List.length l ≤ 1000000)) (
.ret (.fin (.c (.int .i64 (F.ixc l c))) [])) := by kernel_rfl



theorem hix_run (lo hi st : Int) (l : List (List UInt8 × Int × Int)) (l_t : Bool) (now : Int) (c : List UInt8) (b0 : Base) (hb : b0.n = 2) (h0 : List.length l ≤ 100000) : Sym.Runs Try.prog b0 [.code (codeOf Try.f32)] ⟨argsS Try.f32 [.c (.ptr 0 0 0), .c (.str c)], ([.rblk [.int .i64 lo, .int .i64 hi, .int .i64 st, .slc 1 0 (List.length l) l_t, .int .i64 now], .inp 1 l] : Heap cod)⟩ (Sym.Ends Try.prog Try.f32 2 (.c (.int .i64 (F.ixc l c))) []) := by
  refine Runs.go (cfg := C_hixF) L_hixF_ok mixed cuts_hix 400 hb (hix_t0 lo hi st l l_t now c) ?_
  simp only [T.wp, T.wp_cond, Aft, Int.ofNat_eq_natCast, decide_eq_true_eq, and_true, true_and, Nat.zero_add, Bool.not_eq_true', decide_eq_false_iff_not]
  omega



noncomputable def s_hix : Summ cod := fun args H => match args, H with
  | [.c (.ptr 0 0 0), .c (.str c)], [.rblk [.int .i64 lo, .int .i64 hi, .int .i64 st, .slc 1 l_i l_n l_t, .int .i64 now], o1] => (match o1.asInp 1 with | some l => .need ((l_i = 0 ∧ l_n = List.length l) ∧ (List.length l ≤ 100000)) (.ret (.c (.int .i64 (F.ixc l c)), [])) | none => .fail)
  | _, _ => .fail


theorem hix_sound : Sound Try.prog cod 32 s_hix := sound_runs (cfg := C_hixF) L_hixF_ok mixed Try.func32 rfl rfl _ fun args H r news hg b0 hb => by
  unfold s_hix at hg
  split at hg
  · skip
    split at hg
    · rename_i l hx1
      cases asInp_spec hx1
      simp only [T.gives, T.wp, Prod.mk.injEq] at hg
      obtain ⟨⟨⟨rfl, rfl⟩, q1⟩, rfl, rfl⟩ := hg
      exact hix_run _ _ _ _ _ _ _ b0 hb (by assumption)
    · exact hg.elim
  · exact hg.elim

noncomputable def L_hix : Sums cod := (32, .p s_hix) :: L_hixF
noncomputable def C_hix : Cfg cod := mkC L_hix

theorem L_hix_ok : Snd Try.prog cod L_hix := .cons hix_sound L_hixF_ok


end
end Go.Proofs.Ytgmnfdmlidhbcaa
