/- Part of a claim: lemmas on the way to its theorem; each states its own conditions. -/
import Derived.Test.YtoflfgcdagoobaaDoorXc
import Derived.Test.YtoflfgcdagoobaaDoorXi
import Derived.Test.YtoflfgcdagoobaaDoorXq
namespace Go.Proofs.YtoflfgcdagoobaaDoor
open Sym Go.RowKit
noncomputable section
set_option maxRecDepth 100000
set_option maxHeartbeats 4000000



noncomputable def s_qkeyed : Summ cod := s_keyed


theorem qkeyed_sound : Sound Tryd.prog cod 14 s_qkeyed := keyed_sound

noncomputable def L_qkeyed : Sums cod := (14, .p s_qkeyed) :: L_encode
noncomputable def C_qkeyed : Cfg cod := mkC L_qkeyed

theorem L_qkeyed_ok : Snd Tryd.prog cod L_qkeyed := .cons qkeyed_sound L_encode_ok



noncomputable def s_qvalued : Summ cod := s_valued


theorem qvalued_sound : Sound Tryd.prog cod 15 s_qvalued := valued_sound

noncomputable def L_qvalued : Sums cod := (15, .p s_qvalued) :: L_qkeyed
noncomputable def C_qvalued : Cfg cod := mkC L_qvalued

theorem L_qvalued_ok : Snd Tryd.prog cod L_qvalued := .cons qvalued_sound L_qkeyed_ok



noncomputable def s_qcheck : Summ cod := s_check


theorem qcheck_sound : Sound Tryd.prog cod 12 s_qcheck := check_sound

noncomputable def L_qcheck : Sums cod := (12, .p s_qcheck) :: L_qvalued
noncomputable def C_qcheck : Cfg cod := mkC L_qcheck

theorem L_qcheck_ok : Snd Tryd.prog cod L_qcheck := .cons qcheck_sound L_qvalued_ok



noncomputable def s_qserr : Summ cod := s_serr


theorem qserr_sound : Sound Tryd.prog cod 11 s_qserr := serr_sound

noncomputable def L_qserr : Sums cod := (11, .p s_qserr) :: L_qcheck
noncomputable def C_qserr : Cfg cod := mkC L_qserr

theorem L_qserr_ok : Snd Tryd.prog cod L_qserr := .cons qserr_sound L_qcheck_ok



noncomputable def s_qget : Summ cod := s_get


theorem qget_sound : Sound Tryd.prog cod 7 s_qget := get_sound

noncomputable def L_qget : Sums cod := (7, .p s_qget) :: L_qserr
noncomputable def C_qget : Cfg cod := mkC L_qget

theorem L_qget_ok : Snd Tryd.prog cod L_qget := .cons qget_sound L_qserr_ok



noncomputable def s_qrval : Summ cod := s_rval


theorem qrval_sound : Sound Tryd.prog cod 13 s_qrval := rval_sound

noncomputable def L_qrval : Sums cod := (13, .p s_qrval) :: L_qget
noncomputable def C_qrval : Cfg cod := mkC L_qrval

theorem L_qrval_ok : Snd Tryd.prog cod L_qrval := .cons qrval_sound L_qget_ok



noncomputable def s_qset : Summ cod := s_set


theorem qset_sound : Sound Tryd.prog cod 8 s_qset := set_sound

noncomputable def L_qset : Sums cod := (8, .p s_qset) :: L_qrval
noncomputable def C_qset : Cfg cod := mkC L_qset

theorem L_qset_ok : Snd Tryd.prog cod L_qset := .cons qset_sound L_qrval_ok



noncomputable def s_qcut : Summ cod := s_cut


theorem qcut_sound : Sound Tryd.prog cod 9 s_qcut := cut_sound

noncomputable def L_qcut : Sums cod := (9, .p s_qcut) :: L_qset
noncomputable def C_qcut : Cfg cod := mkC L_qcut

theorem L_qcut_ok : Snd Tryd.prog cod L_qcut := .cons qcut_sound L_qset_ok



noncomputable def s_qwith : Summ cod := s_with


theorem qwith_sound : Sound Tryd.prog cod 18 s_qwith := with_sound

noncomputable def L_qwith : Sums cod := (18, .p s_qwith) :: L_qcut
noncomputable def C_qwith : Cfg cod := mkC L_qwith

theorem L_qwith_ok : Snd Tryd.prog cod L_qwith := .cons qwith_sound L_qcut_ok



noncomputable def s_qsame : Summ cod := s_same


theorem qsame_sound : Sound Tryd.prog cod 17 s_qsame := same_sound

noncomputable def L_qsame : Sums cod := (17, .p s_qsame) :: L_qwith
noncomputable def C_qsame : Cfg cod := mkC L_qsame

theorem L_qsame_ok : Snd Tryd.prog cod L_qsame := .cons qsame_sound L_qwith_ok


noncomputable def L_ixb : Sums cod := (83, .p s_ixb) :: L_qsame
noncomputable def C_ixb : Cfg cod := mkC L_ixb

theorem L_ixb_ok : Snd Tryd.prog cod L_ixb := .cons ixb_sound L_qsame_ok


noncomputable def L_ctr : Sums cod := (62, .p s_ctr) :: L_ixb
noncomputable def C_ctr : Cfg cod := mkC L_ctr

theorem L_ctr_ok : Snd Tryd.prog cod L_ctr := .cons ctr_sound L_ixb_ok



def cuts_index : Cuts := []

theorem index_t0 (s : List UInt8) : symF C_ctr cuts_index Tryd.f72.results.toList 0 400 [.code (codeOf Tryd.f72)] ⟨argsS Tryd.f72 [.c (.str s), .c (.str [32])], ([] : Heap cod)⟩ =
 cond (decide ([32] = s)) (
 .ret (.fin (.c (.int .i64 0)) [])) (
 .need (((0 : Int) ≤ 0 ∧ (0 : Int) < Int.ofNat 1)) (
 .need ((Int.ofNat (UInt8.toNat 32) : Int) = 32) (
 .ret (.fin (.c (.int .i64 (F.idx s))) [])))) := by kernel_rfl



theorem index_run (s : List UInt8) (b0 : Base) (hb : b0.n = 0) (h0 : s.length ≤ 1000000000000000) : Sym.Runs Tryd.prog b0 [.code (codeOf Tryd.f72)] ⟨argsS Tryd.f72 [.c (.str s), .c (.str [32])], ([] : Heap cod)⟩ (Sym.Ends Tryd.prog Tryd.f72 0 (.c (.int .i64 (F.idx s))) []) := by
  refine Runs.go (cfg := C_ctr) L_ctr_ok mixed cuts_index 400 hb (index_t0 s) ?_
  simp only [T.wp, T.wp_cond, Aft, Int.ofNat_eq_natCast, decide_eq_true_eq, and_true, true_and, Nat.zero_add, Bool.not_eq_true', decide_eq_false_iff_not]
  by_cases c : [32] = s
  · subst c
    exact ite_yes rfl rfl
  · refine ite_no c ?_
    first | exact ⟨by decide, by decide, rfl⟩ | exact ⟨⟨by decide, by decide⟩, by decide, rfl⟩ | exact ⟨⟨by decide, by decide⟩, by decide⟩ | (constructor <;> decide)



noncomputable def s_index : Summ cod := fun args H => match args, H with
  | [.c (.str s), .c (.str [32])], [] => .need ((s.length ≤ 1000000000000000)) (.ret (.c (.int .i64 (F.idx s)), []))
  | _, _ => .fail


theorem index_sound : Sound Tryd.prog cod 72 s_index := sound_runs (cfg := C_ctr) L_ctr_ok mixed Tryd.func72 rfl rfl _ fun args H r news hg b0 hb => by
  unfold s_index at hg
  split at hg
  · skip
    simp only [T.gives, T.wp, Prod.mk.injEq] at hg
    obtain ⟨q0, rfl, rfl⟩ := hg
    exact index_run _ b0 hb (by assumption)
  · exact hg.elim

noncomputable def L_index : Sums cod := (72, .p s_index) :: L_ctr
noncomputable def C_index : Cfg cod := mkC L_index

theorem L_index_ok : Snd Tryd.prog cod L_index := .cons index_sound L_ctr_ok



namespace F
def spl : List UInt8 → List UInt8 × List UInt8 × Bool
  | [] => ([], [], false)
  | b :: s => if b = 32 then ([], s, true) else (b :: (spl s).1, (spl s).2.1, (spl s).2.2)
def spA (s : List UInt8) : List UInt8 := (spl s).1
def spB (s : List UInt8) : List UInt8 := (spl s).2.1
def spH (s : List UInt8) : Bool := (spl s).2.2
end F


theorem idx_spl : ∀ s : List UInt8, (F.idx s = -1 ∧ F.spl s = (s, [], false)) ∨ ∃ k : Nat, F.idx s = k ∧ k < s.length ∧ F.spl s = (s.take k, s.drop (k + 1), true)
  | [] => .inl ⟨rfl, rfl⟩
  | b :: s => by
    have e : F.idx (b :: s) = if b == 32 then 0 else if F.idx s == -1 then -1 else F.idx s + 1 := rfl
    rw [e, F.spl]
    by_cases c : b = 32
    · refine .inr ⟨0, ?_, by simp, ?_⟩
      · rw [if_pos (by simp [c])]; rfl
      · rw [if_pos c]; rfl
    · rw [if_neg (by simpa using c), if_neg c]
      rcases idx_spl s with ⟨h1, h2⟩ | ⟨k, h1, h2, h3⟩
      · rw [h1, h2]
        exact .inl ⟨rfl, rfl⟩
      · refine .inr ⟨k + 1, ?_, by simpa using h2, ?_⟩
        · rw [h1, if_neg (by first | (simp; done) | (simp; omega))]; rfl
        · rw [h3]; rfl
theorem spl_drop (s : List UInt8) : ∀ j, j ≤ s.length → (∀ i, i < j → s.getD i 0 ≠ 32) → F.spl s = (s.take j ++ (F.spl (s.drop j)).1, (F.spl (s.drop j)).2.1, (F.spl (s.drop j)).2.2) := by
  intro j
  induction j generalizing s with
  | zero => intro _ _; rw [List.take_zero, List.drop_zero]; rfl
  | succ j ih =>
    intro hj hc
    cases s with
    | nil => simp at hj
    | cons b s =>
      have h0 := hc 0 (by omega)
      rw [List.getD_cons_zero] at h0
      have := ih s (by simpa using hj) (fun i hi => by simpa using hc (i + 1) (by omega))
      rw [F.spl, if_neg h0, this, List.take_succ_cons, List.drop_succ_cons]
      rfl
theorem drop_u8 {l : List UInt8} {j : Nat} (h : j < l.length) : l.drop j = l.getD j 0 :: l.drop (j + 1) := by
  rw [List.drop_eq_getElem_cons h, List.getD, List.getElem?_eq_getElem h]
  rfl
theorem u8sub {c : Nat} (h0 : 48 ≤ c) (h1 : c ≤ 57) : IntKind.wrap IntKind.u8 ((c : Int) - 48) = ((c - 48 : Nat) : Int) := by
  rw [show IntKind.wrap IntKind.u8 ((c : Int) - 48) = ((c : Int) - 48) % 256 from rfl]
  omega


def cuts_scut0 : Cuts := []

theorem scut0_t0 (s : List UInt8) : symF C_index cuts_scut0 Tryd.f61.results.toList 0 400 [.code (codeOf Tryd.f61)] ⟨argsS Tryd.f61 [.c (.str s), .c (.str [32])], ([] : Heap cod)⟩ =
.need (List.length s ≤ 1000000000000000) (
 cond (decide (0 ≤ F.idx s)) (
 .need (((0 : Int) ≤ F.idx s ∧ F.idx s ≤ Int.ofNat (List.length s))) (
 .need (i64ok (F.idx s + Int.ofNat 1)) (
 .need (((0 : Int) ≤ F.idx s + Int.ofNat 1 ∧ F.idx s + Int.ofNat 1 ≤ Int.ofNat (List.length s))) (
 .ret (.fin (.tup [.c (.str (List.take (Int.toNat (F.idx s)) s)), .c (.str (List.drop (Int.toNat (F.idx s + Int.ofNat 1)) s)), .c (.bool true)]) []))))) (
 .ret (.fin (.tup [.c (.str s), .c (.str []), .c (.bool false)]) []))) := by kernel_rfl



theorem scut0_run (s : List UInt8) (b0 : Base) (hb : b0.n = 0) (h0 : s.length ≤ 1000000000000000) : Sym.Runs Tryd.prog b0 [.code (codeOf Tryd.f61)] ⟨argsS Tryd.f61 [.c (.str s), .c (.str [32])], ([] : Heap cod)⟩ (Sym.Ends Tryd.prog Tryd.f61 0 (.tup [.c (.str (F.spA s)), .c (.str (F.spB s)), .c (.bool (F.spH s))]) []) := by
  refine Runs.go (cfg := C_index) L_index_ok mixed cuts_scut0 400 hb (scut0_t0 s) ?_
  simp only [T.wp, T.wp_cond, Aft, Int.ofNat_eq_natCast, decide_eq_true_eq, and_true, true_and, Nat.zero_add, Bool.not_eq_true', decide_eq_false_iff_not]
  refine ⟨h0, ?_⟩
  unfold F.spA F.spB F.spH
  rcases idx_spl s with ⟨h1, h2⟩ | ⟨k, h1, h2, h3⟩
  · rw [h2]
    exact ite_no (by omega) rfl
  · rw [h3, h1]
    refine ite_yes (by omega) ⟨⟨by omega, by omega⟩, by unfold i64ok; omega, ⟨by omega, by omega⟩, ?_⟩
    rw [show ((k : Int) + ((1 : Nat) : Int)).toNat = k + 1 by omega, Int.toNat_natCast]



noncomputable def s_scut0 : Summ cod := fun args H => match args, H with
  | [.c (.str s), .c (.str [32])], [] => .need ((s.length ≤ 1000000000000000)) (.ret (.tup [.c (.str (F.spA s)), .c (.str (F.spB s)), .c (.bool (F.spH s))], []))
  | _, _ => .fail


theorem scut0_sound : Sound Tryd.prog cod 61 s_scut0 := sound_runs (cfg := C_index) L_index_ok mixed Tryd.func61 rfl rfl _ fun args H r news hg b0 hb => by
  unfold s_scut0 at hg
  split at hg
  · skip
    simp only [T.gives, T.wp, Prod.mk.injEq] at hg
    obtain ⟨q0, rfl, rfl⟩ := hg
    exact scut0_run _ b0 hb (by assumption)
  · exact hg.elim

noncomputable def L_scut0 : Sums cod := (61, .p s_scut0) :: L_index
noncomputable def C_scut0 : Cfg cod := mkC L_scut0

theorem L_scut0_ok : Snd Tryd.prog cod L_scut0 := .cons scut0_sound L_index_ok



def cuts_scut : Cuts := []

theorem scut_t0 (s : List UInt8) : symF C_scut0 cuts_scut Tryd.f43.results.toList 0 400 [.code (codeOf Tryd.f43)] ⟨argsS Tryd.f43 [.c (.str s), .c (.str [32])], ([] : Heap cod)⟩ =
.need (List.length s ≤ 1000000000000000) (
.ret (.fin (.tup [.c (.str (F.spA s)), .c (.str (F.spB s)), .c (.bool (F.spH s))]) [])) := by kernel_rfl



theorem scut_run (s : List UInt8) (b0 : Base) (hb : b0.n = 0) (h0 : s.length ≤ 1000000000000000) : Sym.Runs Tryd.prog b0 [.code (codeOf Tryd.f43)] ⟨argsS Tryd.f43 [.c (.str s), .c (.str [32])], ([] : Heap cod)⟩ (Sym.Ends Tryd.prog Tryd.f43 0 (.tup [.c (.str (F.spA s)), .c (.str (F.spB s)), .c (.bool (F.spH s))]) []) := by
  refine Runs.go (cfg := C_scut0) L_scut0_ok mixed cuts_scut 400 hb (scut_t0 s) ?_
  simp only [T.wp, T.wp_cond, Aft, Int.ofNat_eq_natCast, decide_eq_true_eq, and_true, true_and, Nat.zero_add, Bool.not_eq_true', decide_eq_false_iff_not]
  exact h0



noncomputable def s_scut : Summ cod := fun args H => match args, H with
  | [.c (.str s), .c (.str [32])], [] => .need ((s.length ≤ 1000000000000000)) (.ret (.tup [.c (.str (F.spA s)), .c (.str (F.spB s)), .c (.bool (F.spH s))], []))
  | _, _ => .fail


theorem scut_sound : Sound Tryd.prog cod 43 s_scut := sound_runs (cfg := C_scut0) L_scut0_ok mixed Tryd.func43 rfl rfl _ fun args H r news hg b0 hb => by
  unfold s_scut at hg
  split at hg
  · skip
    simp only [T.gives, T.wp, Prod.mk.injEq] at hg
    obtain ⟨q0, rfl, rfl⟩ := hg
    exact scut_run _ b0 hb (by assumption)
  · exact hg.elim

noncomputable def L_scut : Sums cod := (43, .p s_scut) :: L_scut0
noncomputable def C_scut : Cfg cod := mkC L_scut

theorem L_scut_ok : Snd Tryd.prog cod L_scut := .cons scut_sound L_scut0_ok



def cuts_split : Cuts := [(2, [0, 7, 8], 0)]

theorem split_t0 (s : List UInt8) : symF C_scut cuts_split Tryd.f45.results.toList 0 400 [.code (codeOf Tryd.f45)] ⟨argsS Tryd.f45 [.c (.str s)], ([] : Heap cod)⟩ =
.ret (.cut (cutAt Tryd.f45 2) ⟨tmG 15 [(0, .c (.str s)), (6, .c (.int .i64 (Int.ofNat (List.length s)))), (0, .c (.int .i64 0))], []⟩) := by kernel_rfl


noncomputable def st_split_2 (s : List UInt8) (i : Int) : St cod := ⟨tmG 15 [(0, .c (.str s)), (6, .c (.int .i64 (Int.ofNat (List.length s)))), (0, .c (.int .i64 i))], []⟩


theorem split_t2 (s : List UInt8) (i : Int) : symF C_scut cuts_split Tryd.f45.results.toList 0 400 (cutAt Tryd.f45 2) (st_split_2 s i) =
 cond (decide (i < Int.ofNat (List.length s))) (
 .need (((0 : Int) ≤ i ∧ i < Int.ofNat (List.length s))) (
 cond (decide (Int.ofNat (UInt8.toNat (List.getD s (Int.toNat i) 0)) = 32)) (
  .need (((0 : Int) ≤ i ∧ i ≤ Int.ofNat (List.length s))) (
  .need (i64ok (i + 1)) (
  .need (((0 : Int) ≤ i + 1 ∧ i + 1 ≤ Int.ofNat (List.length s))) (
  .ret (.fin (.tup [.c (.str (List.take (Int.toNat i) s)), .c (.str (List.drop (Int.toNat (i + 1)) s)), .c (.bool true)]) []))))) (
  .need (i64ok (i + 1)) (
  .ret (.cut (cutAt Tryd.f45 2) ⟨tmG 15 [(0, .c (.str s)), (6, .c (.int .i64 (Int.ofNat (List.length s)))), (0, .c (.int .i64 (i + 1)))], []⟩))))) (
 .ret (.fin (.tup [.c (.str s), .c (.str []), .c (.bool false)]) [])) := by kernel_rfl



theorem split_run (s : List UInt8) (b0 : Base) (hb : b0.n = 0) (h0 : s.length ≤ 1000000000000000) : Sym.Runs Tryd.prog b0 [.code (codeOf Tryd.f45)] ⟨argsS Tryd.f45 [.c (.str s)], ([] : Heap cod)⟩ (Sym.Ends Tryd.prog Tryd.f45 0 (.tup [.c (.str (F.spA s)), .c (.str (F.spB s)), .c (.bool (F.spH s))]) []) := by
  have key : ∀ (m j : Nat), j + m = s.length → (∀ i, i < j → s.getD i 0 ≠ 32) →
      Sym.Runs Tryd.prog b0 (cutAt Tryd.f45 2) (st_split_2 s (j : Int)) (Sym.Ends Tryd.prog Tryd.f45 0 (.tup [.c (.str (F.spA s)), .c (.str (F.spB s)), .c (.bool (F.spH s))]) []) := by
    intro m
    induction m with
    | zero =>
      intro j hm hc
      refine Runs.go (cfg := C_scut) L_scut_ok mixed cuts_split 400 hb (split_t2 s (j : Int)) ?_
      have e := spl_drop s j (by omega) hc
      rw [List.drop_of_length_le (by omega), List.take_of_length_le (by omega)] at e
      unfold F.spA F.spB F.spH
      rw [e]
      simp only [T.wp, T.wp_cond, Aft, Int.ofNat_eq_natCast, decide_eq_true_eq, and_true, true_and, Nat.zero_add, Bool.not_eq_true', decide_eq_false_iff_not]
      refine ite_no (by omega) ?_
      simp [F.spl]
    | succ m ih =>
      intro j hm hc
      refine Runs.go (cfg := C_scut) L_scut_ok mixed cuts_split 400 hb (split_t2 s (j : Int)) ?_
      have hj : j < s.length := by omega
      have e := spl_drop s j (by omega) hc
      rw [drop_u8 hj, F.spl] at e
      have nx := ih (j + 1) (by omega)
      simp only [T.wp, T.wp_cond, Aft, Int.ofNat_eq_natCast, decide_eq_true_eq, and_true, true_and, Nat.zero_add, Bool.not_eq_true', decide_eq_false_iff_not, Int.toNat_natCast]
      refine ite_yes (by omega) ⟨⟨by omega, by omega⟩, ?_⟩
      by_cases c : s.getD j 0 = 32
      · rw [if_pos c] at e
        unfold F.spA F.spB F.spH
        rw [e, show ((j : Int) + 1).toNat = j + 1 by omega]
        refine ite_yes (by rw [c]; rfl) ⟨⟨by omega, by omega⟩, by unfold i64ok; omega, ⟨by omega, by omega⟩, ?_⟩
        simp
      · refine ite_no (fun q => c ?_) ⟨by unfold i64ok; omega, nx fun i hi => ?_⟩
        · have q' : (s.getD j 0).toNat = 32 := by omega
          rw [← UInt8.ofNat_toNat (x := s.getD j 0), q']
          rfl
        · rcases Nat.lt_or_ge i j with h | h
          · exact hc i h
          · rwa [show i = j by omega]
  refine Runs.go (cfg := C_scut) L_scut_ok mixed cuts_split 400 hb (split_t0 s) ?_
  simp only [T.wp, T.wp_cond, Aft, Int.ofNat_eq_natCast, decide_eq_true_eq, and_true, true_and, Nat.zero_add, Bool.not_eq_true', decide_eq_false_iff_not]
  exact key s.length 0 (by omega) (fun i hi => by omega)



noncomputable def s_split : Summ cod := fun args H => match args, H with
  | [.c (.str s)], [] => .need ((s.length ≤ 1000000000000000)) (.ret (.tup [.c (.str (F.spA s)), .c (.str (F.spB s)), .c (.bool (F.spH s))], []))
  | _, _ => .fail


theorem split_sound : Sound Tryd.prog cod 45 s_split := sound_runs (cfg := C_scut) L_scut_ok mixed Tryd.func45 rfl rfl _ fun args H r news hg b0 hb => by
  unfold s_split at hg
  split at hg
  · skip
    simp only [T.gives, T.wp, Prod.mk.injEq] at hg
    obtain ⟨q0, rfl, rfl⟩ := hg
    exact split_run _ b0 hb (by assumption)
  · exact hg.elim

noncomputable def L_split : Sums cod := (45, .p s_split) :: L_scut
noncomputable def C_split : Cfg cod := mkC L_split

theorem L_split_ok : Snd Tryd.prog cod L_split := .cons split_sound L_scut_ok



def cuts_rctr : Cuts := [(6, [0, 5, 6, 4], 0)]

theorem rctr_t0 (s : List UInt8) : symF C_split cuts_rctr Tryd.f46.results.toList 0 400 [.code (codeOf Tryd.f46)] ⟨argsS Tryd.f46 [.c (.str s)], ([] : Heap cod)⟩ =
 cond (!decide (s = [])) (
 .need (((0 : Int) ≤ 0 ∧ (0 : Int) < Int.ofNat (List.length s))) (
 cond (decide (Int.ofNat (UInt8.toNat (List.getD s (Int.toNat 0) 0)) = 45)) (
  cond (decide (1 = Int.ofNat (List.length s))) (
   .ret (.fin (.tup [.c (.int .i64 0), .c (.bool false)]) [])) (
   .need (i64ok (Int.ofNat (List.length s) - 1)) (
   cond (decide (10 < Int.ofNat (List.length s) - 1)) (
    .ret (.fin (.tup [.c (.int .i64 0), .c (.bool false)]) [])) (
    .need (((0 : Int) ≤ 1 ∧ (1 : Int) < Int.ofNat (List.length s))) (
    cond (decide (Int.ofNat (UInt8.toNat (List.getD s (Int.toNat 1) 0)) = 48)) (
     cond (decide (1 < Int.ofNat (List.length s))) (
      .ret (.fin (.tup [.c (.int .i64 0), .c (.bool false)]) [])) (
      .ret (.cut (cutAt Tryd.f46 6) ⟨tmG 58 [(0, .c (.str s)), (3, .c (.int .i64 0)), (0, .c (.int .i64 (-1))), (0, .c (.int .i64 1))], []⟩))) (
     .ret (.cut (cutAt Tryd.f46 6) ⟨tmG 58 [(0, .c (.str s)), (3, .c (.int .i64 0)), (0, .c (.int .i64 (-1))), (0, .c (.int .i64 1))], []⟩))))))) (
  cond (decide (0 = Int.ofNat (List.length s))) (
   .ret (.fin (.tup [.c (.int .i64 0), .c (.bool false)]) [])) (
   .need (i64ok (Int.ofNat (List.length s) - 0)) (
   cond (decide (10 < Int.ofNat (List.length s) - 0)) (
    .ret (.fin (.tup [.c (.int .i64 0), .c (.bool false)]) [])) (
    .need (((0 : Int) ≤ 0 ∧ (0 : Int) < Int.ofNat (List.length s))) (
    cond (decide (Int.ofNat (UInt8.toNat (List.getD s (Int.toNat 0) 0)) = 48)) (
     cond (decide (1 < Int.ofNat (List.length s))) (
      .ret (.fin (.tup [.c (.int .i64 0), .c (.bool false)]) [])) (
      .ret (.cut (cutAt Tryd.f46 6) ⟨tmG 58 [(0, .c (.str s)), (3, .c (.int .i64 0)), (0, .c (.int .i64 1)), (0, .c (.int .i64 0))], []⟩))) (
     .ret (.cut (cutAt Tryd.f46 6) ⟨tmG 58 [(0, .c (.str s)), (3, .c (.int .i64 0)), (0, .c (.int .i64 1)), (0, .c (.int .i64 0))], []⟩))))))))) (
 cond (decide (0 = Int.ofNat (List.length s))) (
  .ret (.fin (.tup [.c (.int .i64 0), .c (.bool false)]) [])) (
  .need (i64ok (Int.ofNat (List.length s) - 0)) (
  cond (decide (10 < Int.ofNat (List.length s) - 0)) (
   .ret (.fin (.tup [.c (.int .i64 0), .c (.bool false)]) [])) (
   .need (((0 : Int) ≤ 0 ∧ (0 : Int) < Int.ofNat (List.length s))) (
   cond (decide (Int.ofNat (UInt8.toNat (List.getD s (Int.toNat 0) 0)) = 48)) (
    cond (decide (1 < Int.ofNat (List.length s))) (
     .ret (.fin (.tup [.c (.int .i64 0), .c (.bool false)]) [])) (
     .ret (.cut (cutAt Tryd.f46 6) ⟨tmG 58 [(0, .c (.str s)), (3, .c (.int .i64 0)), (0, .c (.int .i64 1)), (0, .c (.int .i64 0))], []⟩))) (
    .ret (.cut (cutAt Tryd.f46 6) ⟨tmG 58 [(0, .c (.str s)), (3, .c (.int .i64 0)), (0, .c (.int .i64 1)), (0, .c (.int .i64 0))], []⟩))))))) := by kernel_rfl


noncomputable def st_rctr_6 (s : List UInt8) (i n g : Int) : St cod := ⟨tmG 58 [(0, .c (.str s)), (3, .c (.int .i64 n)), (0, .c (.int .i64 g)), (0, .c (.int .i64 i))], []⟩


theorem rctr_t6 (s : List UInt8) (i n g : Int) : symF C_split cuts_rctr Tryd.f46.results.toList 0 400 (cutAt Tryd.f46 6) (st_rctr_6 s i n g) =
 cond (decide (i < Int.ofNat (List.length s))) (
 .need (((0 : Int) ≤ i ∧ i < Int.ofNat (List.length s))) (
 cond (decide (Int.ofNat (UInt8.toNat (List.getD s (Int.toNat i) 0)) < 48)) (
  .ret (.fin (.tup [.c (.int .i64 0), .c (.bool false)]) [])) (
  .need (((0 : Int) ≤ i ∧ i < Int.ofNat (List.length s))) (
  cond (decide (57 < Int.ofNat (UInt8.toNat (List.getD s (Int.toNat i) 0)))) (
   .ret (.fin (.tup [.c (.int .i64 0), .c (.bool false)]) [])) (
   .need (i64ok (10 * n)) (
   .need (((0 : Int) ≤ i ∧ i < Int.ofNat (List.length s))) (
   .need (i64ok (IntKind.wrap IntKind.u8 (Int.ofNat (UInt8.toNat (List.getD s (Int.toNat i) 0)) - 48))) (
   .need (i64ok (10 * n + IntKind.wrap IntKind.u8 (Int.ofNat (UInt8.toNat (List.getD s (Int.toNat i) 0)) - 48))) (
   .need (i64ok (i + 1)) (
   .ret (.cut (cutAt Tryd.f46 6) ⟨tmG 58 [(0, .c (.str s)), (3, .c (.int .i64 (10 * n + IntKind.wrap IntKind.u8 (Int.ofNat (UInt8.toNat (List.getD s (Int.toNat i) 0)) - 48)))), (0, .c (.int .i64 g)), (0, .c (.int .i64 (i + 1)))], []⟩))))))))))) (
 .need (i64ok (g * n)) (
 .ret (.fin (.tup [.c (.int .i64 (g * n)), .c (.bool (decide (n ≤ 1000000000)))]) []))) := by kernel_rfl



theorem rctr_run (s : List UInt8) (b0 : Base) (hb : b0.n = 0) (h0 : s.length ≤ 1000000000000000) : Sym.Runs Tryd.prog b0 [.code (codeOf Tryd.f46)] ⟨argsS Tryd.f46 [.c (.str s)], ([] : Heap cod)⟩ (Sym.Ends Tryd.prog Tryd.f46 0 (.tup [.c (.int .i64 (F.rcN s)), .c (.bool (F.rcH s))]) []) := by
  have key : ∀ (m j acc k : Nat) (g : Int), j + m = s.length → acc < 10 ^ k → k + m ≤ 10 → F.shape s = true → g = (if F.isNeg s = true then -1 else 1) → F.cdig 0 (F.body s) = F.cdig acc (s.drop j) →
      Sym.Runs Tryd.prog b0 (cutAt Tryd.f46 6) (st_rctr_6 s (j : Int) (acc : Int) g) (Sym.Ends Tryd.prog Tryd.f46 0 (.tup [.c (.int .i64 (F.rcN s)), .c (.bool (F.rcH s))]) []) := by
    intro m
    induction m with
    | zero =>
      intro j acc k g hm hacc hk hs hg hc
      refine Runs.go (cfg := C_split) L_split_ok mixed cuts_rctr 400 hb (rctr_t6 s (j : Int) (acc : Int) g) ?_
      have hp : 10 ^ k ≤ 10 ^ 10 := Nat.pow_le_pow_right (by decide) (by omega)
      rw [List.drop_of_length_le (by omega), F.cdig] at hc
      have e1 : F.rcN s = g * acc := by
        unfold F.rcN
        rw [if_pos hs, hc, hg]
        simp only
        split <;> omega
      have e2 : F.rcH s = decide ((acc : Int) ≤ 1000000000) := by
        unfold F.rcH
        rw [hs, hc, Bool.true_and]
        simp only
        rw [decide_eq_decide]
        omega
      rw [e1, e2]
      simp only [T.wp, T.wp_cond, Aft, Int.ofNat_eq_natCast, decide_eq_true_eq, and_true, true_and, Nat.zero_add, Bool.not_eq_true', decide_eq_false_iff_not]
      refine ite_no (by omega) ?_
      have hgg : g = -1 ∨ g = 1 := by
        rw [hg]
        split
        · exact .inl rfl
        · exact .inr rfl
      unfold i64ok
      rcases hgg with rfl | rfl <;> omega
    | succ m ih =>
      intro j acc k g hm hacc hk hs hg hc
      refine Runs.go (cfg := C_split) L_split_ok mixed cuts_rctr 400 hb (rctr_t6 s (j : Int) (acc : Int) g) ?_
      have hp : 10 ^ k ≤ 10 ^ 9 := Nat.pow_le_pow_right (by decide) (by omega)
      have hj : j < s.length := by omega
      rw [drop_u8 hj, F.cdig] at hc
      have nx := fun acc' h1 h2 => ih (j + 1) acc' (k + 1) g (by omega) h1 (by omega) hs hg h2
      simp only [T.wp, T.wp_cond, Aft, Int.ofNat_eq_natCast, decide_eq_true_eq, and_true, true_and, Nat.zero_add, Bool.not_eq_true', decide_eq_false_iff_not, Int.toNat_natCast]
      have hD : F.isD (s.getD j 0) = decide (48 ≤ (s.getD j 0).toNat ∧ (s.getD j 0).toNat ≤ 57) := rfl
      rw [hD] at hc
      generalize (s.getD j 0).toNat = c at *
      have no : ¬ (48 ≤ c ∧ c ≤ 57) → F.rcN s = 0 ∧ F.rcH s = false := fun h => by
        rw [if_neg (by simpa using h)] at hc
        unfold F.rcN F.rcH
        rw [if_pos hs, hc, Bool.and_false]
        exact ⟨rfl, rfl⟩
      refine ite_yes (by omega) ⟨⟨by omega, by omega⟩, ?_⟩
      by_cases c1 : (c : Int) < 48
      · obtain ⟨n1, n2⟩ := no (by omega)
        rw [n1, n2]
        exact ite_yes c1 rfl
      · refine ite_no c1 ⟨⟨by omega, by omega⟩, ?_⟩
        by_cases c2 : 57 < (c : Int)
        · obtain ⟨n1, n2⟩ := no (by omega)
          rw [n1, n2]
          exact ite_yes c2 rfl
        · have hd : 48 ≤ c ∧ c ≤ 57 := ⟨by omega, by omega⟩
          rw [if_pos (decide_eq_true hd)] at hc
          have n3 := nx (acc * 10 + (c - 48)) (by rw [Nat.pow_succ]; omega) hc
          rw [show ((acc * 10 + (c - 48) : Nat) : Int) = 10 * (acc : Int) + ((c - 48 : Nat) : Int) by omega, ← u8sub hd.1 hd.2] at n3
          refine ite_no c2 ⟨by unfold i64ok; omega, ⟨by omega, by omega⟩, by rw [u8sub hd.1 hd.2]; unfold i64ok; omega, by rw [u8sub hd.1 hd.2]; unfold i64ok; omega, by unfold i64ok; omega, n3⟩
  have sh : F.shape s = false → F.rcN s = 0 ∧ F.rcH s = false := fun h => by
    unfold F.rcN F.rcH
    rw [h, Bool.false_and]
    exact ⟨rfl, rfl⟩
  have u48 : ∀ b : UInt8, b.toNat = 48 ↔ b = 48 := fun b => ⟨fun h => by rw [← UInt8.ofNat_toNat (x := b), h]; rfl, fun h => by rw [h]; rfl⟩
  have u45 : ∀ b : UInt8, b.toNat = 45 ↔ b = 45 := fun b => ⟨fun h => by rw [← UInt8.ofNat_toNat (x := b), h]; rfl, fun h => by rw [h]; rfl⟩
  refine Runs.go (cfg := C_split) L_split_ok mixed cuts_rctr 400 hb (rctr_t0 s) ?_
  simp only [T.wp, T.wp_cond, Aft, Int.ofNat_eq_natCast, decide_eq_true_eq, and_true, true_and, Nat.zero_add, Bool.not_eq_true', decide_eq_false_iff_not]
  match s, h0, key, sh with
  | [], _, key, sh =>
    obtain ⟨n1, n2⟩ := sh (by decide)
    rw [n1, n2]
    exact ite_no (fun h => h rfl) (ite_yes rfl rfl)
  | b :: t, h0, key, sh =>
    refine ite_yes (fun h => by cases h) ⟨⟨by omega, by first | (simp; done) | (simp; omega)⟩, ?_⟩
    have g0 : (b :: t).getD (Int.toNat 0) 0 = b := rfl
    have g1 : (b :: t).getD (Int.toNat 1) 0 = t.getD 0 0 := rfl
    rw [g0, g1]
    simp only [List.length_cons] at h0 ⊢
    by_cases cb : b = 45
    · subst cb
      have n1 : F.isNeg (45 :: t) = true := by simp [F.isNeg]
      have b1 : F.body (45 :: t) = t := by unfold F.body; rw [if_pos n1]; rfl
      refine ite_yes rfl ?_
      have es : F.shape (45 :: t) = !(decide (t = []) || decide (10 < t.length) || (decide (t.head? = some 48) && decide (1 < t.length + 1))) := by unfold F.shape; rw [b1]; rfl
      match t, key, sh, es, b1 with
      | [], key, sh, es, b1 =>
        obtain ⟨n1, n2⟩ := sh (by rw [es]; rfl)
        rw [n1, n2]
        exact ite_yes rfl rfl
      | d :: u, key, sh, es, b1 =>
        simp only [List.length_cons] at h0 es ⊢
        refine ite_no (by omega) ⟨by unfold i64ok; omega, ?_⟩
        by_cases c1 : 10 < (((u.length + 1 + 1 : Nat) : Int)) - 1
        · obtain ⟨n1, n2⟩ := sh (by rw [es, decide_eq_true (show 10 < u.length + 1 by omega)]; simp)
          rw [n1, n2]
          exact ite_yes c1 rfl
        · refine ite_no c1 ⟨⟨by omega, by omega⟩, ?_⟩
          have gd : (d :: u).getD 0 0 = d := rfl
          rw [gd]
          by_cases c2 : d = 48
          · subst c2
            obtain ⟨n1, n2⟩ := sh (by rw [es]; simp)
            rw [n1, n2]
            exact ite_yes rfl (ite_yes (by omega) rfl)
          · refine ite_no (fun q => c2 ((u48 d).1 (by omega))) ?_
            have hsh : F.shape (45 :: d :: u) = true := by
              rw [es, decide_eq_false (show ¬ 10 < u.length + 1 by omega)]
              simp [c2]
            exact key (u.length + 1) 1 0 0 (-1) (by simp; omega) (by decide) (by omega) hsh (by rw [n1]; rfl) (by rw [b1]; rfl)
    · have n1 : F.isNeg (b :: t) = false := by simp [F.isNeg, cb]
      have b1 : F.body (b :: t) = b :: t := by unfold F.body; rw [if_neg (by rw [n1]; decide)]
      refine ite_no (fun q => cb ((u45 b).1 (by omega))) ?_
      have es : F.shape (b :: t) = !(decide (10 < t.length + 1) || (decide (b = 48) && decide (1 < t.length + 1))) := by unfold F.shape; rw [b1]; simp
      refine ite_no (by omega) ⟨by unfold i64ok; omega, ?_⟩
      by_cases c1 : 10 < ((t.length + 1 : Nat) : Int) - 0
      · obtain ⟨n1, n2⟩ := sh (by rw [es, decide_eq_true (show 10 < t.length + 1 by omega)]; rfl)
        rw [n1, n2]
        exact ite_yes c1 rfl
      · refine ite_no c1 ⟨⟨by omega, by omega⟩, ?_⟩
        have fin : F.shape (b :: t) = true → Sym.Runs Tryd.prog b0 (cutAt Tryd.f46 6) (st_rctr_6 (b :: t) 0 0 1) (Sym.Ends Tryd.prog Tryd.f46 0 (.tup [.c (.int .i64 (F.rcN (b :: t))), .c (.bool (F.rcH (b :: t)))]) []) := fun hsh =>
          key (t.length + 1) 0 0 0 1 (by simp) (by decide) (by omega) hsh (by rw [n1]; rfl) (by rw [b1]; rfl)
        by_cases c2 : b = 48
        · subst c2
          refine ite_yes rfl ?_
          by_cases c3 : (1 : Int) < ((t.length + 1 : Nat) : Int)
          · obtain ⟨n1, n2⟩ := sh (by rw [es, decide_eq_true (show 1 < t.length + 1 by omega)]; simp)
            rw [n1, n2]
            exact ite_yes c3 rfl
          · exact ite_no c3 (fin (by rw [es, decide_eq_false (show ¬ 10 < t.length + 1 by omega), decide_eq_false (show ¬ 1 < t.length + 1 by omega)]; simp))
        · exact ite_no (fun q => c2 ((u48 b).1 (by omega))) (fin (by rw [es, decide_eq_false (show ¬ 10 < t.length + 1 by omega), decide_eq_false c2]; rfl))



noncomputable def s_rctr : Summ cod := fun args H => match args, H with
  | [.c (.str s)], [] => .need ((s.length ≤ 1000000000000000)) (.ret (.tup [.c (.int .i64 (F.rcN s)), .c (.bool (F.rcH s))], []))
  | _, _ => .fail


theorem rctr_sound : Sound Tryd.prog cod 46 s_rctr := sound_runs (cfg := C_split) L_split_ok mixed Tryd.func46 rfl rfl _ fun args H r news hg b0 hb => by
  unfold s_rctr at hg
  split at hg
  · skip
    simp only [T.gives, T.wp, Prod.mk.injEq] at hg
    obtain ⟨q0, rfl, rfl⟩ := hg
    exact rctr_run _ b0 hb (by assumption)
  · exact hg.elim

noncomputable def L_rctr : Sums cod := (46, .p s_rctr) :: L_split
noncomputable def C_rctr : Cfg cod := mkC L_rctr

theorem L_rctr_ok : Snd Tryd.prog cod L_rctr := .cons rctr_sound L_split_ok



def cuts_minus : Cuts := []

theorem minus_t0 (n : Int) : symF C_rctr cuts_minus Tryd.f47.results.toList 0 400 [.code (codeOf Tryd.f47)] ⟨argsS Tryd.f47 [.c (.int .i64 n)], ([] : Heap cod)⟩ =
 cond (decide (n < 0)) (
 .need (i64ok (-n)) (
 .need (((0 : Int) ≤ -n ∧ -n ≤ 9223372036854775807)) (
 .need (1 + List.length (F.itoa (-n)) ≤ 9223372036854775807) (
 .ret (.fin (.c (.str ([45] ++ F.itoa (-n)))) []))))) (
 .need (((0 : Int) ≤ n ∧ n ≤ 9223372036854775807)) (
 .ret (.fin (.c (.str (F.itoa n))) []))) := by kernel_rfl



theorem minus_run (n : Int) (b0 : Base) (hb : b0.n = 0) (h0 : -1000000000000000 ≤ n ∧ n ≤ 1000000000000000) : Sym.Runs Tryd.prog b0 [.code (codeOf Tryd.f47)] ⟨argsS Tryd.f47 [.c (.int .i64 n)], ([] : Heap cod)⟩ (Sym.Ends Tryd.prog Tryd.f47 0 (.c (.str (F.itoaZ n))) []) := by
  refine Runs.go (cfg := C_rctr) L_rctr_ok mixed cuts_minus 400 hb (minus_t0 n) ?_
  simp only [T.wp, T.wp_cond, Aft, Int.ofNat_eq_natCast, decide_eq_true_eq, and_true, true_and, Nat.zero_add, Bool.not_eq_true', decide_eq_false_iff_not]
  have hl := itoa_len (-n)
  by_cases c : n < 0
  · have e : F.itoaZ n = 45 :: F.itoa (-n) := if_pos c
    rw [e]
    exact ite_yes c ⟨by unfold i64ok; omega, ⟨by omega, by omega⟩, by omega, rfl⟩
  · have e : F.itoaZ n = F.itoa n := if_neg c
    rw [e]
    exact ite_no c ⟨⟨by omega, by omega⟩, rfl⟩



noncomputable def s_minus : Summ cod := fun args H => match args, H with
  | [.c (.int .i64 n)], [] => .need ((-1000000000000000 ≤ n ∧ n ≤ 1000000000000000)) (.ret (.c (.str (F.itoaZ n)), []))
  | _, _ => .fail


theorem minus_sound : Sound Tryd.prog cod 47 s_minus := sound_runs (cfg := C_rctr) L_rctr_ok mixed Tryd.func47 rfl rfl _ fun args H r news hg b0 hb => by
  unfold s_minus at hg
  split at hg
  · skip
    simp only [T.gives, T.wp, Prod.mk.injEq] at hg
    obtain ⟨q0, rfl, rfl⟩ := hg
    exact minus_run _ b0 hb (by assumption)
  · exact hg.elim

noncomputable def L_minus : Sums cod := (47, .p s_minus) :: L_rctr
noncomputable def C_minus : Cfg cod := mkC L_minus

theorem L_minus_ok : Snd Tryd.prog cod L_minus := .cons minus_sound L_rctr_ok


end
end Go.Proofs.YtoflfgcdagoobaaDoor
