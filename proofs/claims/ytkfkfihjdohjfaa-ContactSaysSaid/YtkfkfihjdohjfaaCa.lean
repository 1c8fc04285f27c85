/- Part of a claim: lemmas on the way to its theorem; each states its own conditions. -/
import Derived.Test.YtkfkfihjdohjfaaBd26
namespace Go.Proofs.Ytkfkfihjdohjfaa
open Sym Go.RowKit
noncomputable section
set_option maxRecDepth 100000
set_option maxHeartbeats 4000000



theorem scmp_eq0 {a b : List UInt8} : F.scmp a b = 0 ↔ a = b := by
  unfold F.scmp
  rcases lt_tri a b with h | h | h
  · rw [h]
    constructor
    · intro q; cases q
    · intro q; subst q; rw [lt_irr] at h; cases h
  · subst h
    simp [lt_irr]
  · rw [h, lt_asymm' h]
    constructor
    · intro q; cases q
    · intro q; subst q; rw [lt_irr] at h; cases h
theorem half {i j : Nat} (h : i + j ≤ 2000000) : Int.fdiv (IntKind.wrap IntKind.u64 ((i : Int) + (j : Int))) (2 ^ min (Int.toNat 1) 64) = (((i + j) / 2 : Nat) : Int) := by
  have e1 : IntKind.wrap IntKind.u64 ((i : Int) + (j : Int)) = (i : Int) + (j : Int) := by
    rw [show IntKind.wrap IntKind.u64 ((i : Int) + (j : Int)) = ((i : Int) + (j : Int)) % 18446744073709551616 from rfl]
    omega
  have e2 : ((2 : Int) ^ min (Int.toNat 1) 64) = 2 := by decide
  rw [e1, e2, Int.fdiv_eq_ediv_of_nonneg _ (by decide)]
  omega


noncomputable def s_find1 : Summ cod := autoS C_cmpB Try.f64 400


theorem find1_sound : Sound Try.prog cod 64 s_find1 := auto_sound (cfg := C_cmpB) L_cmpB_ok mixed Try.func64 rfl rfl 400

noncomputable def L_find1 : Sums cod := (64, .p s_find1) :: L_cmpB
noncomputable def C_find1 : Cfg cod := mkC L_find1

theorem L_find1_ok : Snd Try.prog cod L_find1 := .cons find1_sound L_cmpB_ok



def cuts_bsf : Cuts := [(3, [1, 0, 2, 10, 8, 9], 1)]

theorem bsf_t0 (l : List (List UInt8 × Int × Int)) (l_t : Bool) (k : List UInt8) : symF C_find1 cuts_bsf Try.f63.results.toList 1 400 [.code (codeOf Try.f63)] ⟨argsS Try.f63 [.c (.slc 0 0 (List.length l) l_t), .c (.str k), .c (.fn 64 [])], ([.inp 5 l] : Heap cod)⟩ =
.ret (.cut (cutAt Try.f63 3) ⟨tmG 38 [(0, .c (.slc 0 0 (List.length l) l_t)), (0, .c (.str k)), (0, .c (.fn 64 [])), (5, .c (.int .i64 (Int.ofNat (List.length l)))), (0, .c (.int .i64 0)), (0, .c (.int .i64 (Int.ofNat (List.length l))))], [.inp 5 l]⟩) := by kernel_rfl


noncomputable def st_bsf_3 (l : List (List UInt8 × Int × Int)) (l_t : Bool) (k : List UInt8) (i j : Int) : St cod := ⟨tmG 38 [(0, .c (.slc 0 0 (List.length l) l_t)), (0, .c (.str k)), (0, .c (.fn 64 [])), (5, .c (.int .i64 (Int.ofNat (List.length l)))), (0, .c (.int .i64 i)), (0, .c (.int .i64 j))], [.inp 5 l]⟩


theorem bsf_t3 (l : List (List UInt8 × Int × Int)) (l_t : Bool) (k : List UInt8) (i j : Int) : symF C_find1 cuts_bsf Try.f63.results.toList 1 400 (cutAt Try.f63 3) (st_bsf_3 l l_t k i j) =
 cond (decide (i < j)) (
 .need (i64ok (i + j)) (
 .need ((0 : Int) ≤ 1) (
 .need (i64ok (Int.fdiv (IntKind.wrap IntKind.u64 (i + j)) (2 ^ min (Int.toNat 1) 64))) (
 .need (((0 : Int) ≤ Int.fdiv (IntKind.wrap IntKind.u64 (i + j)) (2 ^ min (Int.toNat 1) 64) ∧ Int.fdiv (IntKind.wrap IntKind.u64 (i + j)) (2 ^ min (Int.toNat 1) 64) < Int.ofNat (List.length l))) (
 .need (0 + Int.toNat (Int.fdiv (IntKind.wrap IntKind.u64 (i + j)) (2 ^ min (Int.toNat 1) 64)) < List.length l) (
 cond (decide   (F.scmp       (List.getD l (0 + Int.toNat (Int.fdiv (IntKind.wrap IntKind.u64 (i + j)) (2 ^ min (Int.toNat 1) 64))) (cod 5).d).1       k <     0)) (
  .need (i64ok (Int.fdiv (IntKind.wrap IntKind.u64 (i + j)) (2 ^ min (Int.toNat 1) 64) + 1)) (
  .ret (.cut (cutAt Try.f63 3) ⟨tmG 38 [(0, .c (.slc 0 0 (List.length l) l_t)), (0, .c (.str k)), (0, .c (.fn 64 [])), (5, .c (.int .i64 (Int.ofNat (List.length l)))), (0, .c (.int .i64 (Int.fdiv (IntKind.wrap IntKind.u64 (i + j)) (2 ^ min (Int.toNat 1) 64) + 1))), (0, .c (.int .i64 j))], [.inp 5 l]⟩))) (
  .ret (.cut (cutAt Try.f63 3) ⟨tmG 38 [(0, .c (.slc 0 0 (List.length l) l_t)), (0, .c (.str k)), (0, .c (.fn 64 [])), (5, .c (.int .i64 (Int.ofNat (List.length l)))), (0, .c (.int .i64 i)), (0, .c (.int .i64 (Int.fdiv (IntKind.wrap IntKind.u64 (i + j)) (2 ^ min (Int.toNat 1) 64))))], [.inp 5 l]⟩)))))))) (
 cond (decide (i < Int.ofNat (List.length l))) (
  .need (((0 : Int) ≤ i ∧ i < Int.ofNat (List.length l))) (
  .need (0 + Int.toNat i < List.length l) (
  .ret (.fin (.tup [.c (.int .i64 i), .c (.bool (decide (F.scmp (List.getD l (0 + Int.toNat i) (cod 5).d).1 k = 0)))]) [])))) (
  .ret (.fin (.tup [.c (.int .i64 i), .c (.bool false)]) []))) := by kernel_rfl



theorem bsf_run (l : List (List UInt8 × Int × Int)) (l_t : Bool) (k : List UInt8) (b0 : Base) (hb : b0.n = 1) (h0 : F.asc l = true) (h1 : l.length ≤ 1000000) : Sym.Runs Try.prog b0 [.code (codeOf Try.f63)] ⟨argsS Try.f63 [.c (.slc 0 0 (List.length l) l_t), .c (.str k), .c (.fn 64 [])], ([.inp 5 l] : Heap cod)⟩ (Sym.Ends Try.prog Try.f63 1 (.tup [.c (.int .i64 (F.posC l k : Int)), .c (.bool (F.hasC l k))]) []) := by
  have e0 : ∀ k, List.getD l k (cod 5).d = List.getD l k F.co0 := fun _ => rfl
  have key : ∀ (n i j : Nat), j - i ≤ n → i ≤ j → j ≤ l.length → (∀ m, m < i → F.lt (l.getD m F.co0).1 k = true) → (∀ m, j ≤ m → m < l.length → F.lt (l.getD m F.co0).1 k = false) →
      Sym.Runs Try.prog b0 (cutAt Try.f63 3) (st_bsf_3 l l_t k (i : Int) (j : Int)) (Sym.Ends Try.prog Try.f63 1 (.tup [.c (.int .i64 (F.posC l k : Int)), .c (.bool (F.hasC l k))]) []) := by
    intro n
    induction n with
    | zero =>
      intro i j hn hij hj p1 p2
      have hij' : i = j := by omega
      subst hij'
      refine Runs.go (cfg := C_find1) L_find1_ok mixed cuts_bsf 400 hb (bsf_t3 l l_t k (i : Int) (i : Int)) ?_
      have hp : F.posC l k = i := posC_eq hj p1 p2
      have hh := hasC_pos (k := k) h0
      rw [hp] at hh ⊢
      simp only [T.wp, T.wp_cond, Aft, Int.ofNat_eq_natCast, decide_eq_true_eq, and_true, true_and, Nat.zero_add, Bool.not_eq_true', decide_eq_false_iff_not, Int.toNat_natCast, e0]
      refine ite_no (by omega) ?_
      by_cases c : i < l.length
      · refine ite_yes (by omega) ⟨⟨by omega, by omega⟩, c, ?_⟩
        have e : decide (F.scmp (l.getD i F.co0).1 k = 0) = decide ((l.getD i F.co0).1 = k) := by
          rw [decide_eq_decide]
          exact scmp_eq0
        rw [hh, decide_eq_true c, Bool.true_and, ← e]
      · refine ite_no (by omega) ?_
        rw [hh, decide_eq_false c, Bool.false_and]
    | succ n ih =>
      intro i j hn hij hj p1 p2
      by_cases hij' : i = j
      · exact ih i j (by omega) hij hj p1 p2
      · refine Runs.go (cfg := C_find1) L_find1_ok mixed cuts_bsf 400 hb (bsf_t3 l l_t k (i : Int) (j : Int)) ?_
        have eh := half (i := i) (j := j) (by omega)
        simp only [T.wp, T.wp_cond, Aft, Int.ofNat_eq_natCast, decide_eq_true_eq, and_true, true_and, Nat.zero_add, Bool.not_eq_true', decide_eq_false_iff_not, e0, eh, Int.toNat_natCast]
        have h1 : i ≤ (i + j) / 2 := by omega
        have h2 : (i + j) / 2 < j := by omega
        have n1 := ih ((i + j) / 2 + 1) j (by omega) (by omega) hj
        have n2 := ih i ((i + j) / 2) (by omega) (by omega) (by omega)
        generalize (i + j) / 2 = h at *
        refine ite_yes (by omega) ⟨by unfold Sym.i64ok; omega, by decide, by unfold Sym.i64ok; omega, ⟨by omega, by omega⟩, by omega, ?_⟩
        by_cases c : F.lt (l.getD h F.co0).1 k = true
        · refine ite_yes (scmp_lt.2 c) ⟨by unfold Sym.i64ok; omega, n1 (fun m hm => ?_) p2⟩
          rcases Nat.lt_or_ge m h with q | q
          · exact lt_trans' (asc_lt h0 q (by omega)) c
          · rwa [show m = h by omega]
        · refine ite_no (fun q => c (scmp_lt.1 q)) (n2 p1 fun m hm hml => ?_)
          rcases Nat.lt_or_ge h m with q | q
          · rw [Bool.eq_false_iff]
            exact fun e => c (lt_trans' (asc_lt h0 q hml) e)
          · rw [show m = h by omega]
            simpa using c
  refine Runs.go (cfg := C_find1) L_find1_ok mixed cuts_bsf 400 hb (bsf_t0 l l_t k) ?_
  simp only [T.wp, T.wp_cond, Aft, Int.ofNat_eq_natCast, decide_eq_true_eq, and_true, true_and, Nat.zero_add, Bool.not_eq_true', decide_eq_false_iff_not]
  exact key l.length 0 l.length (by omega) (by omega) (by omega) (fun m hm => by omega) (fun m h1 h2 => by omega)



noncomputable def s_bsf : Summ cod := fun args H => match args, H with
  | [.c (.slc 0 l_i l_n l_t), .c (.str k), .c (.fn 64 [])], [o0] => (match o0.asInp 5 with | some l => .need ((l_i = 0 ∧ l_n = List.length l) ∧ (F.asc l = true) ∧ (l.length ≤ 1000000)) (.ret (.tup [.c (.int .i64 (F.posC l k : Int)), .c (.bool (F.hasC l k))], [])) | none => .fail)
  | _, _ => .fail


theorem bsf_sound : Sound Try.prog cod 63 s_bsf := sound_runs (cfg := C_find1) L_find1_ok mixed Try.func63 rfl rfl _ fun args H r news hg b0 hb => by
  unfold s_bsf at hg
  split at hg
  · skip
    split at hg
    · rename_i l hx0
      cases asInp_spec hx0
      simp only [T.gives, T.wp, Prod.mk.injEq] at hg
      obtain ⟨⟨⟨rfl, rfl⟩, q1, q2⟩, rfl, rfl⟩ := hg
      exact bsf_run _ _ _ b0 hb (by assumption) (by assumption)
    · exact hg.elim
  · exact hg.elim

noncomputable def L_bsf : Sums cod := (63, .p s_bsf) :: L_find1
noncomputable def C_bsf : Cfg cod := mkC L_bsf

theorem L_bsf_ok : Snd Try.prog cod L_bsf := .cons bsf_sound L_find1_ok



def cuts_cfnd : Cuts := []

theorem cfnd_t0 (l : List (List UInt8 × Int × Int)) (l_t : Bool) (k : List UInt8) : symF C_bsf cuts_cfnd Try.f49.results.toList 2 400 [.code (codeOf Try.f49)] ⟨argsS Try.f49 [.c (.ptr 0 0 0), .c (.str k)], ([.rblk [.slc 1 0 (List.length l) l_t], .inp 5 l] : Heap cod)⟩ =
.need (((0 = 0 ∧ List.length l = List.length l) ∧ (F.asc l = true ∧ List.length l ≤ 1000000))) (
.ret (.fin (.tup [.c (.int .i64 (Int.ofNat (F.posC l k))), .c (.bool (F.hasC l k))]) [])) := by kernel_rfl



theorem cfnd_run (l : List (List UInt8 × Int × Int)) (l_t : Bool) (k : List UInt8) (b0 : Base) (hb : b0.n = 2) (h0 : F.asc l = true) (h1 : l.length ≤ 100000) : Sym.Runs Try.prog b0 [.code (codeOf Try.f49)] ⟨argsS Try.f49 [.c (.ptr 0 0 0), .c (.str k)], ([.rblk [.slc 1 0 (List.length l) l_t], .inp 5 l] : Heap cod)⟩ (Sym.Ends Try.prog Try.f49 2 (.tup [.c (.int .i64 (F.posC l k : Int)), .c (.bool (F.hasC l k))]) []) := by
  refine Runs.go (cfg := C_bsf) L_bsf_ok mixed cuts_cfnd 400 hb (cfnd_t0 l l_t k) ?_
  simp only [T.wp, T.wp_cond, Aft, Int.ofNat_eq_natCast, decide_eq_true_eq, and_true, true_and, Nat.zero_add, Bool.not_eq_true', decide_eq_false_iff_not]
  exact ⟨h0, by omega⟩



noncomputable def s_cfnd : Summ cod := fun args H => match args, H with
  | [.c (.ptr 0 0 0), .c (.str k)], [.rblk [.slc 1 l_i l_n l_t], o1] => (match o1.asInp 5 with | some l => .need ((l_i = 0 ∧ l_n = List.length l) ∧ (F.asc l = true) ∧ (l.length ≤ 100000)) (.ret (.tup [.c (.int .i64 (F.posC l k : Int)), .c (.bool (F.hasC l k))], [])) | none => .fail)
  | _, _ => .fail


theorem cfnd_sound : Sound Try.prog cod 49 s_cfnd := sound_runs (cfg := C_bsf) L_bsf_ok mixed Try.func49 rfl rfl _ fun args H r news hg b0 hb => by
  unfold s_cfnd at hg
  split at hg
  · skip
    split at hg
    · rename_i l hx1
      cases asInp_spec hx1
      simp only [T.gives, T.wp, Prod.mk.injEq] at hg
      obtain ⟨⟨⟨rfl, rfl⟩, q1, q2⟩, rfl, rfl⟩ := hg
      exact cfnd_run _ _ _ b0 hb (by assumption) (by assumption)
    · exact hg.elim
  · exact hg.elim

noncomputable def L_cfnd : Sums cod := (49, .p s_cfnd) :: L_bsf
noncomputable def C_cfnd : Cfg cod := mkC L_cfnd

theorem L_cfnd_ok : Snd Try.prog cod L_cfnd := .cons cfnd_sound L_bsf_ok



namespace F
def vfr (f : Int) : Bool := decide (118000 ≤ f) && (decide (f ≤ 136975) && decide (Int.tmod f 25 = 0))
def wrg (t : Int) : Bool := decide (t < 0) || decide (200000 < t)
end F


def cuts_cval : Cuts := []

theorem cval_t0 (f : Int) : symF C_cfnd cuts_cval Try.f22.results.toList 0 400 [.code (codeOf Try.f22)] ⟨argsS Try.f22 [.c (.int .i64 f)], ([] : Heap cod)⟩ =
 cond (decide (118000 ≤ f)) (
 cond (decide (f ≤ 136975)) (
  .need ((25 : Int) ≠ 0) (
  .ret (.fin (.c (.bool (decide (Int.tmod f 25 = 0)))) []))) (
  .ret (.fin (.c (.bool false)) []))) (
 .ret (.fin (.c (.bool false)) [])) := by kernel_rfl



theorem cval_run (f : Int) (b0 : Base) (hb : b0.n = 0) (h0 : Sym.i64ok f) : Sym.Runs Try.prog b0 [.code (codeOf Try.f22)] ⟨argsS Try.f22 [.c (.int .i64 f)], ([] : Heap cod)⟩ (Sym.Ends Try.prog Try.f22 0 (.c (.bool (F.vfr f))) []) := by
  refine Runs.go (cfg := C_cfnd) L_cfnd_ok mixed cuts_cval 400 hb (cval_t0 f) ?_
  unfold F.vfr
  simp only [T.wp, T.wp_cond, Aft, Int.ofNat_eq_natCast, decide_eq_true_eq, and_true, true_and, Nat.zero_add, Bool.not_eq_true', decide_eq_false_iff_not]
  by_cases h1 : 118000 ≤ f <;> by_cases h2 : f ≤ 136975 <;> simp [h1, h2]



noncomputable def s_cval : Summ cod := fun args H => match args, H with
  | [.c (.int .i64 f)], [] => .need ((Sym.i64ok f)) (.ret (.c (.bool (F.vfr f)), []))
  | _, _ => .fail


theorem cval_sound : Sound Try.prog cod 22 s_cval := sound_runs (cfg := C_cfnd) L_cfnd_ok mixed Try.func22 rfl rfl _ fun args H r news hg b0 hb => by
  unfold s_cval at hg
  split at hg
  · skip
    simp only [T.gives, T.wp, Prod.mk.injEq] at hg
    obtain ⟨q0, rfl, rfl⟩ := hg
    exact cval_run _ b0 hb (by assumption)
  · exact hg.elim

noncomputable def L_cval : Sums cod := (22, .p s_cval) :: L_cfnd
noncomputable def C_cval : Cfg cod := mkC L_cval

theorem L_cval_ok : Snd Try.prog cod L_cval := .cons cval_sound L_cfnd_ok



def cuts_cwrg : Cuts := []

theorem cwrg_t0 (t : Int) : symF C_cval cuts_cwrg Try.f50.results.toList 0 400 [.code (codeOf Try.f50)] ⟨argsS Try.f50 [.c (.int .i64 t)], ([] : Heap cod)⟩ =
 cond (decide (t < 0)) (
 .ret (.fin (.c (.bool true)) [])) (
 .ret (.fin (.c (.bool (decide (200000 < t)))) [])) := by kernel_rfl



theorem cwrg_run (t : Int) (b0 : Base) (hb : b0.n = 0)  : Sym.Runs Try.prog b0 [.code (codeOf Try.f50)] ⟨argsS Try.f50 [.c (.int .i64 t)], ([] : Heap cod)⟩ (Sym.Ends Try.prog Try.f50 0 (.c (.bool (F.wrg t))) []) := by
  refine Runs.go (cfg := C_cval) L_cval_ok mixed cuts_cwrg 400 hb (cwrg_t0 t) ?_
  unfold F.wrg
  simp only [T.wp, T.wp_cond, Aft, Int.ofNat_eq_natCast, decide_eq_true_eq, and_true, true_and, Nat.zero_add, Bool.not_eq_true', decide_eq_false_iff_not]
  by_cases h1 : t < 0 <;> simp [h1]



noncomputable def s_cwrg : Summ cod := fun args H => match args, H with
  | [.c (.int .i64 t)], [] => .ret (.c (.bool (F.wrg t)), [])
  | _, _ => .fail


theorem cwrg_sound : Sound Try.prog cod 50 s_cwrg := sound_runs (cfg := C_cval) L_cval_ok mixed Try.func50 rfl rfl _ fun args H r news hg b0 hb => by
  unfold s_cwrg at hg
  split at hg
  · skip
    cases hg
    exact cwrg_run _ b0 hb 
  · exact hg.elim

noncomputable def L_cwrg : Sums cod := (50, .p s_cwrg) :: L_cval
noncomputable def C_cwrg : Cfg cod := mkC L_cwrg

theorem L_cwrg_ok : Snd Try.prog cod L_cwrg := .cons cwrg_sound L_cval_ok


end
end Go.Proofs.Ytkfkfihjdohjfaa
