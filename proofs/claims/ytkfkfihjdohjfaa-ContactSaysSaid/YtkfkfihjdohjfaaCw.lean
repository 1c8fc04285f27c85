/- Part of a claim: lemmas on the way to its theorem; each states its own conditions. -/
import Derived.Test.YtkfkfihjdohjfaaCv
import Derived.Test.YtkfkfihjdohjfaaBd23
namespace Go.Proofs.Ytkfkfihjdohjfaa
open Sym Go.RowKit
noncomputable section
set_option maxRecDepth 100000
set_option maxHeartbeats 4000000



namespace F
def kdxG (c : List UInt8) : List Co → Int → Int
  | [], _ => -1
  | p :: r, i => if p.1 = c then i else kdxG c r (i + 1)
def kdx (l : List Co) (c : List UInt8) : Int := kdxG c l 0
end F


def cuts_clist0 : Cuts := []

theorem clist0_t0 (l : List (List UInt8 × Int × Int)) (l_t : Bool) : symF C_clost cuts_clist0 Try.f35.results.toList 2 400 [.code (codeOf Try.f35)] ⟨argsS Try.f35 [.c (.ptr 0 0 0)], ([.rblk [.slc 1 0 (List.length l) l_t], .inp 5 l] : Heap cod)⟩ =
.ite (decide (List.length l = 0)) (
 .need (List.length l = 0) (
 .ret (.fin (.c (.slc 1 0 0 true)) []))) (
 .need ((0 + List.length l ≤ List.length l ∧ ((0 : Nat) < List.length l ∧ List.length l ≤ 1000000))) (
 .ret (.fin (.c (.own 2 (List.length l))) [.own 5 (List.take (List.length l) (List.drop 0 l)) 56]))) := by kernel_rfl



theorem clist0_run (l : List (List UInt8 × Int × Int)) (l_t : Bool) (b0 : Base) (hb : b0.n = 2) (h0 : l.length = 0) : Sym.Runs Try.prog b0 [.code (codeOf Try.f35)] ⟨argsS Try.f35 [.c (.ptr 0 0 0)], ([.rblk [.slc 1 0 (List.length l) l_t], .inp 5 l] : Heap cod)⟩ (Sym.Ends Try.prog Try.f35 2 (.c (.slc 1 0 0 true)) []) := by
  refine Runs.go (cfg := C_clost) L_clost_ok mixed cuts_clist0 400 hb (clist0_t0 l l_t) ?_
  simp only [T.wp, T.wp_cond, Aft, Int.ofNat_eq_natCast, decide_eq_true_eq, and_true, true_and, Nat.zero_add, Bool.not_eq_true', decide_eq_false_iff_not]
  exact ⟨fun e => e, fun e => absurd h0 e⟩



noncomputable def s_clist0 : Summ cod := fun args H => match args, H with
  | [.c (.ptr 0 0 0)], [.rblk [.slc 1 l_i l_n l_t], o1] => (match o1.asInp 5 with | some l => .need ((l_i = 0 ∧ l_n = List.length l) ∧ (l.length = 0)) (.ret (.c (.slc 1 0 0 true), [])) | none => .fail)
  | _, _ => .fail


theorem clist0_sound : Sound Try.prog cod 35 s_clist0 := sound_runs (cfg := C_clost) L_clost_ok mixed Try.func35 rfl rfl _ fun args H r news hg b0 hb => by
  unfold s_clist0 at hg
  split at hg
  · skip
    split at hg
    · rename_i l hx1
      cases asInp_spec hx1
      simp only [T.gives, T.wp, Prod.mk.injEq] at hg
      obtain ⟨⟨⟨rfl, rfl⟩, q1⟩, rfl, rfl⟩ := hg
      exact clist0_run _ _ b0 hb (by assumption)
    · exact hg.elim
  · exact hg.elim

noncomputable def L_clist0 : Sums cod := (35, .p s_clist0) :: L_clost
noncomputable def C_clist0 : Cfg cod := mkC L_clist0

theorem L_clist0_ok : Snd Try.prog cod L_clist0 := .cons clist0_sound L_clost_ok



/-- By the number of contacts: none, or some. -/
noncomputable def s_clistB : Summ cod := fun args H => match H with
  | [.rblk [.slc 1 _ n _], _] => .ite (decide (n = 0)) (s_clist0 args H) (s_clist args H)
  | _ => .fail


theorem clistB_sound : Sound Try.prog cod 35 s_clistB := by
  refine ⟨clist_sound.enters, fun args H env w vs r news hro G ha hg => ?_⟩
  unfold s_clistB at hg
  split at hg
  · rename_i i n t o
    by_cases c : n = 0
    · exact clist0_sound.calls _ _ env w vs r news hro G ha (hg.1 (by simp [c]))
    · exact clist_sound.calls _ _ env w vs r news hro G ha (hg.2 (by simp [c]))
  · exact hg.elim

noncomputable def L_clistB : Sums cod := (35, .p s_clistB) :: L_clist0
noncomputable def C_clistB : Cfg cod := mkC L_clistB

theorem L_clistB_ok : Snd Try.prog cod L_clistB := .cons clistB_sound L_clist0_ok



def cuts_cnew : Cuts := []

theorem cnew_t0  : symF C_clistB cuts_cnew Try.f23.results.toList 0 400 [.code (codeOf Try.f23)] ⟨argsS Try.f23 [], ([] : Heap cod)⟩ =
.ret (.fin (.c (.ptr 0 0 0)) [.blk [.nil] 79]) := by kernel_rfl



theorem cnew_run  (b0 : Base) (hb : b0.n = 0)  : Sym.Runs Try.prog b0 [.code (codeOf Try.f23)] ⟨argsS Try.f23 [], ([] : Heap cod)⟩ (Sym.Ends Try.prog Try.f23 0 (.c (.ptr 0 0 0)) [.blk [.nil] 79]) := by
  refine Runs.go (cfg := C_clistB) L_clistB_ok mixed cuts_cnew 400 hb cnew_t0 ?_
  exact ⟨rfl, rfl⟩



noncomputable def s_cnew : Summ cod := fun args H => match args, H with
  | [], [] => .ret (.c (.ptr 0 0 0), [.blk [.nil] 79])
  | _, _ => .fail


theorem cnew_sound : Sound Try.prog cod 23 s_cnew := sound_runs (cfg := C_clistB) L_clistB_ok mixed Try.func23 rfl rfl _ fun args H r news hg b0 hb => by
  unfold s_cnew at hg
  split at hg
  · skip
    cases hg
    exact cnew_run  b0 hb 
  · exact hg.elim

noncomputable def L_cnew : Sums cod := (23, .p s_cnew) :: L_clistB
noncomputable def C_cnew : Cfg cod := mkC L_cnew

theorem L_cnew_ok : Snd Try.prog cod L_cnew := .cons cnew_sound L_clistB_ok



def cuts_lvf : Cuts := []

theorem lvf_t0 (f : Int) : symF C_cnew cuts_lvf Try.f24.results.toList 0 400 [.code (codeOf Try.f24)] ⟨argsS Try.f24 [.c (.int .i64 f)], ([] : Heap cod)⟩ =
 cond (decide (118000 ≤ f)) (
 cond (decide (f ≤ 136975)) (
  .need ((25 : Int) ≠ 0) (
  .ret (.fin (.c (.bool (decide (Int.tmod f 25 = 0)))) []))) (
  .ret (.fin (.c (.bool false)) []))) (
 .ret (.fin (.c (.bool false)) [])) := by kernel_rfl



theorem lvf_run (f : Int) (b0 : Base) (hb : b0.n = 0)  : Sym.Runs Try.prog b0 [.code (codeOf Try.f24)] ⟨argsS Try.f24 [.c (.int .i64 f)], ([] : Heap cod)⟩ (Sym.Ends Try.prog Try.f24 0 (.c (.bool (F.vfr f))) []) := by
  refine Runs.go (cfg := C_cnew) L_cnew_ok mixed cuts_lvf 400 hb (lvf_t0 f) ?_
  unfold F.vfr
  simp only [T.wp, T.wp_cond, Aft, Int.ofNat_eq_natCast, decide_eq_true_eq, and_true, true_and, Nat.zero_add, Bool.not_eq_true', decide_eq_false_iff_not]
  by_cases h1 : 118000 ≤ f <;> by_cases h2 : f ≤ 136975 <;> simp [h1, h2]



noncomputable def s_lvf : Summ cod := fun args H => match args, H with
  | [.c (.int .i64 f)], [] => .ret (.c (.bool (F.vfr f)), [])
  | _, _ => .fail


theorem lvf_sound : Sound Try.prog cod 24 s_lvf := sound_runs (cfg := C_cnew) L_cnew_ok mixed Try.func24 rfl rfl _ fun args H r news hg b0 hb => by
  unfold s_lvf at hg
  split at hg
  · skip
    cases hg
    exact lvf_run _ b0 hb 
  · exact hg.elim

noncomputable def L_lvf : Sums cod := (24, .p s_lvf) :: L_cnew
noncomputable def C_lvf : Cfg cod := mkC L_lvf

theorem L_lvf_ok : Snd Try.prog cod L_lvf := .cons lvf_sound L_cnew_ok



def cuts_ceql : Cuts := [(4, [1, 0, 12, 13], 2)]

theorem ceql_t0 (a : List (List UInt8 × Int × Int)) (a_t : Bool) (b : List (List UInt8 × Int × Int)) (b_t : Bool) : symF C_lvf cuts_ceql Try.f34.results.toList 2 400 [.code (codeOf Try.f34)] ⟨argsS Try.f34 [.c (.slc 0 0 (List.length a) a_t), .c (.slc 1 0 (List.length b) b_t)], ([.inp 5 a, .inp 5 b] : Heap cod)⟩ =
 cond (!decide (Int.ofNat (List.length a) = Int.ofNat (List.length b))) (
 .ret (.fin (.c (.bool false)) [])) (
 .ret (.cut (cutAt Try.f34 4) ⟨tmG 12 [(0, .c (.slc 0 0 (List.length a) a_t)), (0, .c (.slc 1 0 (List.length b) b_t)), (10, .c (.int .i64 (Int.ofNat (List.length a)))), (0, .c (.int .i64 0))], [.inp 5 a, .inp 5 b]⟩)) := by kernel_rfl


noncomputable def st_ceql_4 (a : List (List UInt8 × Int × Int)) (a_t : Bool) (b : List (List UInt8 × Int × Int)) (b_t : Bool) (i : Int) : St cod := ⟨tmG 12 [(0, .c (.slc 0 0 (List.length a) a_t)), (0, .c (.slc 1 0 (List.length b) b_t)), (10, .c (.int .i64 (Int.ofNat (List.length a)))), (0, .c (.int .i64 i))], [.inp 5 a, .inp 5 b]⟩


theorem ceql_t4 (a : List (List UInt8 × Int × Int)) (a_t : Bool) (b : List (List UInt8 × Int × Int)) (b_t : Bool) (i : Int) : symF C_lvf cuts_ceql Try.f34.results.toList 2 400 (cutAt Try.f34 4) (st_ceql_4 a a_t b b_t i) =
 cond (decide (i < Int.ofNat (List.length a))) (
 .need (((0 : Int) ≤ i ∧ i < Int.ofNat (List.length a))) (
 .need (0 + Int.toNat i < List.length a) (
 .need (((0 : Int) ≤ i ∧ i < Int.ofNat (List.length b))) (
 .need (0 + Int.toNat i < List.length b) (
 cond (!(decide ((List.getD a (0 + Int.toNat i) (cod 5).d).1 = (List.getD b (0 + Int.toNat i) (cod 5).d).1) &&     (decide ((List.getD a (0 + Int.toNat i) (cod 5).d).2.1 = (List.getD b (0 + Int.toNat i) (cod 5).d).2.1) &&       decide ((List.getD a (0 + Int.toNat i) (cod 5).d).2.2 = (List.getD b (0 + Int.toNat i) (cod 5).d).2.2)))) (
  .ret (.fin (.c (.bool false)) [])) (
  .need (i64ok (i + 1)) (
  .ret (.cut (cutAt Try.f34 4) ⟨tmG 12 [(0, .c (.slc 0 0 (List.length a) a_t)), (0, .c (.slc 1 0 (List.length b) b_t)), (10, .c (.int .i64 (Int.ofNat (List.length a)))), (0, .c (.int .i64 (i + 1)))], [.inp 5 a, .inp 5 b]⟩)))))))) (
 .ret (.fin (.c (.bool true)) [])) := by kernel_rfl



theorem ceql_run (a : List (List UInt8 × Int × Int)) (a_t : Bool) (b : List (List UInt8 × Int × Int)) (b_t : Bool) (b0 : Base) (hb : b0.n = 2) (h0 : a = b) (h1 : a.length ≤ 100000) : Sym.Runs Try.prog b0 [.code (codeOf Try.f34)] ⟨argsS Try.f34 [.c (.slc 0 0 (List.length a) a_t), .c (.slc 1 0 (List.length b) b_t)], ([.inp 5 a, .inp 5 b] : Heap cod)⟩ (Sym.Ends Try.prog Try.f34 2 (.c (.bool true)) []) := by
  subst h0
  have key : ∀ (m k : Nat), k + m = a.length →
      Sym.Runs Try.prog b0 (cutAt Try.f34 4) (st_ceql_4 a a_t a b_t (k : Int)) (Sym.Ends Try.prog Try.f34 2 (.c (.bool true)) []) := by
    intro m
    induction m with
    | zero =>
      intro k hk
      refine Runs.go (cfg := C_lvf) L_lvf_ok mixed cuts_ceql 400 hb (ceql_t4 a a_t a b_t (k : Int)) ?_
      simp only [T.wp, T.wp_cond, Aft, Int.ofNat_eq_natCast, decide_eq_true_eq, and_true, true_and, Nat.zero_add, Bool.not_eq_true', decide_eq_false_iff_not]
      exact ite_no (by omega) trivial
    | succ m ih =>
      intro k hk
      refine Runs.go (cfg := C_lvf) L_lvf_ok mixed cuts_ceql 400 hb (ceql_t4 a a_t a b_t (k : Int)) ?_
      have nx := ih (k + 1) (by omega)
      have hk1 : (k : Int) < (a.length : Int) := by omega
      simp only [T.wp, T.wp_cond, Aft, Int.ofNat_eq_natCast, decide_eq_true_eq, and_true, true_and, Nat.zero_add, Bool.not_eq_true', decide_eq_false_iff_not, decide_true, Bool.and_true, Bool.not_true, Bool.false_eq_true, if_false]
      exact ite_yes hk1 ⟨⟨by omega, hk1⟩, by omega, ⟨by omega, hk1⟩, by omega, by unfold Sym.i64ok; omega, nx⟩
  refine Runs.go (cfg := C_lvf) L_lvf_ok mixed cuts_ceql 400 hb (ceql_t0 a a_t a b_t) ?_
  simp only [T.wp, T.wp_cond, Aft, Int.ofNat_eq_natCast, decide_eq_true_eq, and_true, true_and, Nat.zero_add, Bool.not_eq_true', decide_eq_false_iff_not]
  exact ite_no (fun q => q trivial) (key a.length 0 (by omega))



noncomputable def s_ceql : Summ cod := fun args H => match args, H with
  | [.c (.slc 0 a_i a_n a_t), .c (.slc 1 b_i b_n b_t)], [o0, o1] => (match o0.asInp 5 with | some a => (match o1.asInp 5 with | some b => .need ((a_i = 0 ∧ a_n = List.length a) ∧ (b_i = 0 ∧ b_n = List.length b) ∧ (a = b) ∧ (a.length ≤ 100000)) (.ret (.c (.bool true), [])) | none => .fail) | none => .fail)
  | _, _ => .fail


theorem ceql_sound : Sound Try.prog cod 34 s_ceql := sound_runs (cfg := C_lvf) L_lvf_ok mixed Try.func34 rfl rfl _ fun args H r news hg b0 hb => by
  unfold s_ceql at hg
  split at hg
  · skip
    split at hg
    · rename_i a hx0
      cases asInp_spec hx0
      split at hg
      · rename_i b hx1
        cases asInp_spec hx1
        simp only [T.gives, T.wp, Prod.mk.injEq] at hg
        obtain ⟨⟨⟨rfl, rfl⟩, ⟨rfl, rfl⟩, q2, q3⟩, rfl, rfl⟩ := hg
        exact ceql_run _ _ _ _ b0 hb (by assumption) (by assumption)
      · exact hg.elim
    · exact hg.elim
  · exact hg.elim

noncomputable def L_ceql : Sums cod := (34, .p s_ceql) :: L_lvf
noncomputable def C_ceql : Cfg cod := mkC L_ceql

theorem L_ceql_ok : Snd Try.prog cod L_ceql := .cons ceql_sound L_lvf_ok



def cuts_seqs : Cuts := [(4, [1, 0, 12, 13], 2)]

theorem seqs_t0 (a : List (List UInt8)) (a_t : Bool) (b : List (List UInt8)) (b_t : Bool) : symF C_ceql cuts_seqs Try.f36.results.toList 2 400 [.code (codeOf Try.f36)] ⟨argsS Try.f36 [.c (.slc 0 0 (List.length a) a_t), .c (.slc 1 0 (List.length b) b_t)], ([.inp 2 a, .inp 2 b] : Heap cod)⟩ =
 cond (!decide (Int.ofNat (List.length a) = Int.ofNat (List.length b))) (
 .ret (.fin (.c (.bool false)) [])) (
 .ret (.cut (cutAt Try.f36 4) ⟨tmG 12 [(0, .c (.slc 0 0 (List.length a) a_t)), (0, .c (.slc 1 0 (List.length b) b_t)), (10, .c (.int .i64 (Int.ofNat (List.length a)))), (0, .c (.int .i64 0))], [.inp 2 a, .inp 2 b]⟩)) := by kernel_rfl


noncomputable def st_seqs_4 (a : List (List UInt8)) (a_t : Bool) (b : List (List UInt8)) (b_t : Bool) (i : Int) : St cod := ⟨tmG 12 [(0, .c (.slc 0 0 (List.length a) a_t)), (0, .c (.slc 1 0 (List.length b) b_t)), (10, .c (.int .i64 (Int.ofNat (List.length a)))), (0, .c (.int .i64 i))], [.inp 2 a, .inp 2 b]⟩


theorem seqs_t4 (a : List (List UInt8)) (a_t : Bool) (b : List (List UInt8)) (b_t : Bool) (i : Int) : symF C_ceql cuts_seqs Try.f36.results.toList 2 400 (cutAt Try.f36 4) (st_seqs_4 a a_t b b_t i) =
 cond (decide (i < Int.ofNat (List.length a))) (
 .need (((0 : Int) ≤ i ∧ i < Int.ofNat (List.length a))) (
 .need (0 + Int.toNat i < List.length a) (
 .need (((0 : Int) ≤ i ∧ i < Int.ofNat (List.length b))) (
 .need (0 + Int.toNat i < List.length b) (
 cond (!decide (List.getD a (0 + Int.toNat i) (cod 2).d = List.getD b (0 + Int.toNat i) (cod 2).d)) (
  .ret (.fin (.c (.bool false)) [])) (
  .need (i64ok (i + 1)) (
  .ret (.cut (cutAt Try.f36 4) ⟨tmG 12 [(0, .c (.slc 0 0 (List.length a) a_t)), (0, .c (.slc 1 0 (List.length b) b_t)), (10, .c (.int .i64 (Int.ofNat (List.length a)))), (0, .c (.int .i64 (i + 1)))], [.inp 2 a, .inp 2 b]⟩)))))))) (
 .ret (.fin (.c (.bool true)) [])) := by kernel_rfl



theorem seqs_run (a : List (List UInt8)) (a_t : Bool) (b : List (List UInt8)) (b_t : Bool) (b0 : Base) (hb : b0.n = 2) (h0 : a = b) (h1 : a.length ≤ 100000) : Sym.Runs Try.prog b0 [.code (codeOf Try.f36)] ⟨argsS Try.f36 [.c (.slc 0 0 (List.length a) a_t), .c (.slc 1 0 (List.length b) b_t)], ([.inp 2 a, .inp 2 b] : Heap cod)⟩ (Sym.Ends Try.prog Try.f36 2 (.c (.bool true)) []) := by
  subst h0
  have key : ∀ (m k : Nat), k + m = a.length →
      Sym.Runs Try.prog b0 (cutAt Try.f36 4) (st_seqs_4 a a_t a b_t (k : Int)) (Sym.Ends Try.prog Try.f36 2 (.c (.bool true)) []) := by
    intro m
    induction m with
    | zero =>
      intro k hk
      refine Runs.go (cfg := C_ceql) L_ceql_ok mixed cuts_seqs 400 hb (seqs_t4 a a_t a b_t (k : Int)) ?_
      simp only [T.wp, T.wp_cond, Aft, Int.ofNat_eq_natCast, decide_eq_true_eq, and_true, true_and, Nat.zero_add, Bool.not_eq_true', decide_eq_false_iff_not]
      exact ite_no (by omega) trivial
    | succ m ih =>
      intro k hk
      refine Runs.go (cfg := C_ceql) L_ceql_ok mixed cuts_seqs 400 hb (seqs_t4 a a_t a b_t (k : Int)) ?_
      have nx := ih (k + 1) (by omega)
      have hk1 : (k : Int) < (a.length : Int) := by omega
      simp only [T.wp, T.wp_cond, Aft, Int.ofNat_eq_natCast, decide_eq_true_eq, and_true, true_and, Nat.zero_add, Bool.not_eq_true', decide_eq_false_iff_not, decide_true, Bool.and_true, Bool.not_true, Bool.false_eq_true, if_false]
      exact ite_yes hk1 ⟨⟨by omega, hk1⟩, by omega, ⟨by omega, hk1⟩, by omega, by unfold Sym.i64ok; omega, nx⟩
  refine Runs.go (cfg := C_ceql) L_ceql_ok mixed cuts_seqs 400 hb (seqs_t0 a a_t a b_t) ?_
  simp only [T.wp, T.wp_cond, Aft, Int.ofNat_eq_natCast, decide_eq_true_eq, and_true, true_and, Nat.zero_add, Bool.not_eq_true', decide_eq_false_iff_not]
  exact ite_no (fun q => q trivial) (key a.length 0 (by omega))



noncomputable def s_seqs : Summ cod := fun args H => match args, H with
  | [.c (.slc 0 a_i a_n a_t), .c (.slc 1 b_i b_n b_t)], [o0, o1] => (match o0.asInp 2 with | some a => (match o1.asInp 2 with | some b => .need ((a_i = 0 ∧ a_n = List.length a) ∧ (b_i = 0 ∧ b_n = List.length b) ∧ (a = b) ∧ (a.length ≤ 100000)) (.ret (.c (.bool true), [])) | none => .fail) | none => .fail)
  | _, _ => .fail


theorem seqs_sound : Sound Try.prog cod 36 s_seqs := sound_runs (cfg := C_ceql) L_ceql_ok mixed Try.func36 rfl rfl _ fun args H r news hg b0 hb => by
  unfold s_seqs at hg
  split at hg
  · skip
    split at hg
    · rename_i a hx0
      cases asInp_spec hx0
      split at hg
      · rename_i b hx1
        cases asInp_spec hx1
        simp only [T.gives, T.wp, Prod.mk.injEq] at hg
        obtain ⟨⟨⟨rfl, rfl⟩, ⟨rfl, rfl⟩, q2, q3⟩, rfl, rfl⟩ := hg
        exact seqs_run _ _ _ _ b0 hb (by assumption) (by assumption)
      · exact hg.elim
    · exact hg.elim
  · exact hg.elim

noncomputable def L_seqs : Sums cod := (36, .p s_seqs) :: L_ceql
noncomputable def C_seqs : Cfg cod := mkC L_seqs

theorem L_seqs_ok : Snd Try.prog cod L_seqs := .cons seqs_sound L_ceql_ok



def cuts_lkc : Cuts := []

theorem lkc_t0 (a1 : List UInt8) (a2 a3 : Int) (c1 c2 c3 : Int) (c : List UInt8) : symF C_seqs cuts_lkc Try.f26.results.toList 1 400 [.code (codeOf Try.f26)] ⟨argsS Try.f26 [.agg [.str a1, .int .i64 a2, .int .i64 a3], .c (.ptr 0 0 0)], ([.rblk [.int .i64 c1, .int .i64 c2, .int .i64 c3, .str c]] : Heap cod)⟩ =
.ret (.fin (.c (.bool (decide (a1 = c)))) []) := by kernel_rfl



theorem lkc_run (a1 : List UInt8) (a2 a3 : Int) (c1 c2 c3 : Int) (c : List UInt8) (b0 : Base) (hb : b0.n = 1)  : Sym.Runs Try.prog b0 [.code (codeOf Try.f26)] ⟨argsS Try.f26 [.agg [.str a1, .int .i64 a2, .int .i64 a3], .c (.ptr 0 0 0)], ([.rblk [.int .i64 c1, .int .i64 c2, .int .i64 c3, .str c]] : Heap cod)⟩ (Sym.Ends Try.prog Try.f26 1 (.c (.bool (decide (a1 = c)))) []) := by
  refine Runs.go (cfg := C_seqs) L_seqs_ok mixed cuts_lkc 400 hb (lkc_t0 a1 a2 a3 c1 c2 c3 c) ?_
  simp only [T.wp, T.wp_cond, Aft, Int.ofNat_eq_natCast, decide_eq_true_eq, and_true, true_and, Nat.zero_add, Bool.not_eq_true', decide_eq_false_iff_not]



noncomputable def s_lkc : Summ cod := fun args H => match args, H with
  | [.agg [.str a1, .int .i64 a2, .int .i64 a3], .c (.ptr 0 0 0)], [.rblk [.int .i64 c1, .int .i64 c2, .int .i64 c3, .str c]] => .ret (.c (.bool (decide (a1 = c))), [])
  | _, _ => .fail


theorem lkc_sound : Sound Try.prog cod 26 s_lkc := sound_runs (cfg := C_seqs) L_seqs_ok mixed Try.func26 rfl rfl _ fun args H r news hg b0 hb => by
  unfold s_lkc at hg
  split at hg
  · skip
    cases hg
    exact lkc_run _ _ _ _ _ _ _ b0 hb 
  · exact hg.elim

noncomputable def L_lkc : Sums cod := (26, .p s_lkc) :: L_seqs
noncomputable def C_lkc : Cfg cod := mkC L_lkc

theorem L_lkc_ok : Snd Try.prog cod L_lkc := .cons lkc_sound L_seqs_ok



def cuts_ixK : Cuts := [(2, [0, 1, 7, 8], 2)]

theorem ixK_t0 (l : List (List UInt8 × Int × Int)) (l_t : Bool) (c1 c2 c3 : Int) (c : List UInt8) : symF C_lkc cuts_ixK Try.f25.results.toList 2 400 [.code (codeOf Try.f25)] ⟨argsS Try.f25 [.c (.slc 0 0 (List.length l) l_t), .c (.fn 26 [(1, 0, 0)])], ([.inp 5 l, .rblk [.int .i64 c1, .int .i64 c2, .int .i64 c3, .str c]] : Heap cod)⟩ =
.ret (.cut (cutAt Try.f25 2) ⟨tmG 10 [(0, .c (.slc 0 0 (List.length l) l_t)), (0, .c (.fn 26 [(1, 0, 0)])), (5, .c (.int .i64 (Int.ofNat (List.length l)))), (0, .c (.int .i64 0))], [.inp 5 l, .rblk [.int .i64 c1, .int .i64 c2, .int .i64 c3, .str c]]⟩) := by kernel_rfl


noncomputable def st_ixK_2 (l : List (List UInt8 × Int × Int)) (l_t : Bool) (c1 c2 c3 : Int) (c : List UInt8) (i : Int) : St cod := ⟨tmG 10 [(0, .c (.slc 0 0 (List.length l) l_t)), (0, .c (.fn 26 [(1, 0, 0)])), (5, .c (.int .i64 (Int.ofNat (List.length l)))), (0, .c (.int .i64 i))], [.inp 5 l, .rblk [.int .i64 c1, .int .i64 c2, .int .i64 c3, .str c]]⟩


theorem ixK_t2 (l : List (List UInt8 × Int × Int)) (l_t : Bool) (c1 c2 c3 : Int) (c : List UInt8) (i : Int) : symF C_lkc cuts_ixK Try.f25.results.toList 2 400 (cutAt Try.f25 2) (st_ixK_2 l l_t c1 c2 c3 c i) =
 cond (decide (i < Int.ofNat (List.length l))) (
 .need (((0 : Int) ≤ i ∧ i < Int.ofNat (List.length l))) (
 .need (0 + Int.toNat i < List.length l) (
 cond (decide ((List.getD l (0 + Int.toNat i) (cod 5).d).1 = c)) (
  .ret (.fin (.c (.int .i64 i)) [])) (
  .need (i64ok (i + 1)) (
  .ret (.cut (cutAt Try.f25 2) ⟨tmG 10 [(0, .c (.slc 0 0 (List.length l) l_t)), (0, .c (.fn 26 [(1, 0, 0)])), (5, .c (.int .i64 (Int.ofNat (List.length l)))), (0, .c (.int .i64 (i + 1)))], [.inp 5 l, .rblk [.int .i64 c1, .int .i64 c2, .int .i64 c3, .str c]]⟩)))))) (
 .ret (.fin (.c (.int .i64 (-1))) [])) := by kernel_rfl



theorem ixK_run (l : List (List UInt8 × Int × Int)) (l_t : Bool) (c1 c2 c3 : Int) (c : List UInt8) (b0 : Base) (hb : b0.n = 2) (h0 : List.length l ≤ 1000000) : Sym.Runs Try.prog b0 [.code (codeOf Try.f25)] ⟨argsS Try.f25 [.c (.slc 0 0 (List.length l) l_t), .c (.fn 26 [(1, 0, 0)])], ([.inp 5 l, .rblk [.int .i64 c1, .int .i64 c2, .int .i64 c3, .str c]] : Heap cod)⟩ (Sym.Ends Try.prog Try.f25 2 (.c (.int .i64 (F.kdx l c))) []) := by
  have key : ∀ (m : Nat) (i : Int), 0 ≤ i → i + m = l.length → F.kdx l c = F.kdxG c (l.drop i.toNat) i →
      Sym.Runs Try.prog b0 (cutAt Try.f25 2) (st_ixK_2 l l_t c1 c2 c3 c i) (Sym.Ends Try.prog Try.f25 2 (.c (.int .i64 (F.kdx l c))) []) := by
    intro m
    induction m with
    | zero =>
      intro i hi hm hR
      refine Runs.go (cfg := C_lkc) L_lkc_ok mixed cuts_ixK 400 hb (ixK_t2 l l_t c1 c2 c3 c i) ?_
      have h1 : ¬ i < (l.length : Int) := by omega
      rw [drop_end l h1] at hR
      simp only [T.wp, T.wp_cond, Aft, Int.ofNat_eq_natCast, decide_eq_true_eq, and_true, true_and, Nat.zero_add, Bool.not_eq_true', decide_eq_false_iff_not]
      refine ite_no h1 ?_
      rw [hR]
      rfl
    | succ m ih =>
      intro i hi hm hR
      refine Runs.go (cfg := C_lkc) L_lkc_ok mixed cuts_ixK 400 hb (ixK_t2 l l_t c1 c2 c3 c i) ?_
      have h1 : i < (l.length : Int) := by omega
      rw [drop_at l (cod 5).d hi h1] at hR
      have nx := ih (i + 1) (by omega) (by omega)
      simp only [T.wp, T.wp_cond, Aft, Int.ofNat_eq_natCast, decide_eq_true_eq, and_true, true_and, Nat.zero_add, Bool.not_eq_true', decide_eq_false_iff_not, Nat.zero_add]
      generalize l.getD i.toNat (cod 5).d = p at *
      refine ite_yes h1 ⟨⟨hi, h1⟩, by omega, ?_⟩
      by_cases e : p.1 = c
      · refine ite_yes e ?_
        rw [hR, F.kdxG, if_pos e]
      · refine ite_no e ⟨by unfold Sym.i64ok; omega, nx ?_⟩
        rw [hR, F.kdxG, if_neg e]
  refine Runs.go (cfg := C_lkc) L_lkc_ok mixed cuts_ixK 400 hb (ixK_t0 l l_t c1 c2 c3 c) ?_
  simp only [T.wp, T.wp_cond, Aft, Int.ofNat_eq_natCast, decide_eq_true_eq, and_true, true_and, Nat.zero_add, Bool.not_eq_true', decide_eq_false_iff_not]
  exact key l.length 0 (by omega) (by omega) rfl



noncomputable def s_ixK : Summ cod := fun args H => match args, H with
  | [.c (.slc 0 l_i l_n l_t), .c (.fn 26 [(1, 0, 0)])], [o0, .rblk [.int .i64 c1, .int .i64 c2, .int .i64 c3, .str c]] => (match o0.asInp 5 with | some l => .need ((l_i = 0 ∧ l_n = List.length l) ∧ (List.length l ≤ 1000000)) (.ret (.c (.int .i64 (F.kdx l c)), [])) | none => .fail)
  | _, _ => .fail


theorem ixK_sound : Sound Try.prog cod 25 s_ixK := sound_runs (cfg := C_lkc) L_lkc_ok mixed Try.func25 rfl rfl _ fun args H r news hg b0 hb => by
  unfold s_ixK at hg
  split at hg
  · skip
    split at hg
    · rename_i l hx0
      cases asInp_spec hx0
      simp only [T.gives, T.wp, Prod.mk.injEq] at hg
      obtain ⟨⟨⟨rfl, rfl⟩, q1⟩, rfl, rfl⟩ := hg
      exact ixK_run _ _ _ _ _ _ b0 hb (by assumption)
    · exact hg.elim
  · exact hg.elim

noncomputable def L_ixK : Sums cod := (25, .p s_ixK) :: L_lkc
noncomputable def C_ixK : Cfg cod := mkC L_ixK

theorem L_ixK_ok : Snd Try.prog cod L_ixK := .cons ixK_sound L_lkc_ok


end
end Go.Proofs.Ytkfkfihjdohjfaa
