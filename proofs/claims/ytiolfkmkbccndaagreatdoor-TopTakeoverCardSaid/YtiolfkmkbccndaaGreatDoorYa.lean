/- Part of a claim: lemmas on the way to its theorem; each states its own conditions. -/
import Derived.Test.YtiolfkmkbccndaaGreatDoorXi
import Derived.Test.YtiolfkmkbccndaaGreatDoorBd43
import Derived.Test.YtiolfkmkbccndaaGreatDoorBd42
namespace Go.Proofs.YtiolfkmkbccndaaGreatDoor
open Sym Go.RowKit
noncomputable section
set_option maxRecDepth 100000
set_option maxHeartbeats 4000000



def cuts_cloneS : Cuts := []

theorem cloneS_t0 (l : List (List UInt8)) (l_t : Bool) (l_i l_n : Nat) : symF C_0 cuts_cloneS Tryz.f21.results.toList 1 400 [.code (codeOf Tryz.f21)] ⟨argsS Tryz.f21 [.c (.slc 0 l_i l_n l_t)], ([.inp 2 l] : Heap cod)⟩ =
.need ((0 : Nat) < l_n) (
.need (List.length (List.take l_n (List.drop l_i l)) = l_n) (
.need (0 = 0) (
.need (((0 : Nat) < List.length (List.take l_n (List.drop l_i l)) ∧ 0 + List.length (List.take l_n (List.drop l_i l)) ≤ 1000000)) (
.ret (.fin (.c (.own 1 (0 + List.length (List.take l_n (List.drop l_i l))))) [.own 2 ([] ++ (List.take l_n (List.drop l_i l))) 9]))))) := by kernel_rfl



theorem cloneS_run (l : List (List UInt8)) (l_t : Bool) (l_i l_n : Nat) (b0 : Base) (hb : b0.n = 1) (h0 : l_i + l_n ≤ List.length l) (h1 : 0 < l_n) (h2 : l_n ≤ 1000000) : Sym.Runs Tryz.prog b0 [.code (codeOf Tryz.f21)] ⟨argsS Tryz.f21 [.c (.slc 0 l_i l_n l_t)], ([.inp 2 l] : Heap cod)⟩ (Sym.Ends Tryz.prog Tryz.f21 1 (.c (.own 1 l_n)) [.own 2 ((l.drop l_i).take l_n) 9]) := by
  refine Runs.go (cfg := C_0) L_0_ok mixed cuts_cloneS 400 hb (cloneS_t0 l l_t l_i l_n) ?_
  have e : (List.take l_n (List.drop l_i l)).length = l_n := by rw [List.length_take, List.length_drop]; omega
  simp only [T.wp, Aft, true_and, Nat.zero_add, e]
  refine ⟨h1, ⟨h1, h2⟩, ?_⟩
  simp []
  rfl



noncomputable def s_cloneS : Summ cod := fun args H => match args, H with
  | [.c (.slc 0 l_i l_n l_t)], [o0] => (match o0.asInp 2 with | some l => .need ((l_i + l_n ≤ List.length l) ∧ (0 < l_n) ∧ (l_n ≤ 1000000)) (.ret (.c (.own 1 l_n), [.own 2 ((l.drop l_i).take l_n) 9])) | none => .fail)
  | _, _ => .fail


theorem cloneS_sound : Sound Tryz.prog cod 21 s_cloneS := sound_runs (cfg := C_0) L_0_ok mixed Tryz.func21 rfl rfl _ fun args H r news hg b0 hb => by
  unfold s_cloneS at hg
  split at hg
  · skip
    split at hg
    · rename_i l hx0
      cases asInp_spec hx0
      simp only [T.gives, T.wp, Prod.mk.injEq] at hg
      obtain ⟨⟨q0, q1, q2⟩, rfl, rfl⟩ := hg
      exact cloneS_run _ _ _ _ b0 hb (by assumption) (by assumption) (by assumption)
    · exact hg.elim
  · exact hg.elim

noncomputable def L_cloneS : Sums cod := (21, .p s_cloneS) :: L_0
noncomputable def C_cloneS : Cfg cod := mkC L_cloneS

theorem L_cloneS_ok : Snd Tryz.prog cod L_cloneS := .cons cloneS_sound L_0_ok



noncomputable def s_cloneS0 : Summ cod := fun args _ => match args with
  | [.c (.slc h _ n _)] => .need (n = 0) (.ret (.c (.slc h 0 0 true), []))
  | _ => .fail
noncomputable def s_cloneSB : Summ cod := s_len s_cloneS0 s_cloneS


theorem cloneS0_sound : Sound Tryz.prog cod 21 s_cloneS0 := by
  refine ⟨cloneS_sound.enters, fun args H env w vs r news hro G ha hg => ?_⟩
  unfold s_cloneS0 at hg
  split at hg
  · rename_i x i n t
    obtain ⟨hn, hr⟩ := hg
    subst hn
    cases hr
    cases ha with
    | @cons _ v0 _ vs hx hxs =>
      cases hxs
      obtain ⟨hN, A, c, rfl, h1, h2, h3, h4⟩ := hx
      cases A with
      | none =>
        refine (cloneS_none c w).mono ?_
        rintro e w' ⟨rfl, rfl⟩
        exact ⟨_, env, rfl, EnvEq.refl _ _, ⟨hN, none, 0, rfl, Nat.le_refl _, by decide, fun _ => rfl, fun h => absurd h (by decide)⟩, by simpa using G, ⟨Below.refl _ _, Nat.le_refl _⟩⟩
      | some a =>
        refine (cloneS_zero a c w).mono ?_
        rintro e w' ⟨A, rfl, hb, hd⟩
        exact ⟨_, env, rfl, EnvEq.refl _ _, ⟨hN, A, 0, rfl, Nat.le_refl _, by decide, fun _ => rfl, fun h => absurd h (by decide)⟩, by simpa using G.below hb (Nat.le_refl _), ⟨hb, dl_mono hd⟩⟩
  · exact hg.elim
theorem cloneSB_sound : Sound Tryz.prog cod 21 s_cloneSB := Sound.len cloneS0_sound cloneS_sound

noncomputable def L_cloneSB : Sums cod := (21, .p s_cloneSB) :: L_cloneS
noncomputable def C_cloneSB : Cfg cod := mkC L_cloneSB

theorem L_cloneSB_ok : Snd Tryz.prog cod L_cloneSB := .cons cloneSB_sound L_cloneS_ok



def cuts_cloneM : Cuts := []

theorem cloneM_t0 (l : List (Int × Int × Bool × List UInt8)) (l_t : Bool) (l_i l_n : Nat) : symF C_cloneSB cuts_cloneM Tryz.f23.results.toList 1 400 [.code (codeOf Tryz.f23)] ⟨argsS Tryz.f23 [.c (.slc 0 l_i l_n l_t)], ([.inp 6 l] : Heap cod)⟩ =
.need ((0 : Nat) < l_n) (
.need (List.length (List.take l_n (List.drop l_i l)) = l_n) (
.need (0 = 0) (
.need (((0 : Nat) < List.length (List.take l_n (List.drop l_i l)) ∧ 0 + List.length (List.take l_n (List.drop l_i l)) ≤ 1000000)) (
.ret (.fin (.c (.own 1 (0 + List.length (List.take l_n (List.drop l_i l))))) [.own 6 ([] ++ (List.take l_n (List.drop l_i l))) 61]))))) := by kernel_rfl



theorem cloneM_run (l : List (Int × Int × Bool × List UInt8)) (l_t : Bool) (l_i l_n : Nat) (b0 : Base) (hb : b0.n = 1) (h0 : l_i + l_n ≤ List.length l) (h1 : 0 < l_n) (h2 : l_n ≤ 1000000) : Sym.Runs Tryz.prog b0 [.code (codeOf Tryz.f23)] ⟨argsS Tryz.f23 [.c (.slc 0 l_i l_n l_t)], ([.inp 6 l] : Heap cod)⟩ (Sym.Ends Tryz.prog Tryz.f23 1 (.c (.own 1 l_n)) [.own 6 ((l.drop l_i).take l_n) 61]) := by
  refine Runs.go (cfg := C_cloneSB) L_cloneSB_ok mixed cuts_cloneM 400 hb (cloneM_t0 l l_t l_i l_n) ?_
  have e : (List.take l_n (List.drop l_i l)).length = l_n := by rw [List.length_take, List.length_drop]; omega
  simp only [T.wp, Aft, true_and, Nat.zero_add, e]
  refine ⟨h1, ⟨h1, h2⟩, ?_⟩
  simp []
  rfl



noncomputable def s_cloneM : Summ cod := fun args H => match args, H with
  | [.c (.slc 0 l_i l_n l_t)], [o0] => (match o0.asInp 6 with | some l => .need ((l_i + l_n ≤ List.length l) ∧ (0 < l_n) ∧ (l_n ≤ 1000000)) (.ret (.c (.own 1 l_n), [.own 6 ((l.drop l_i).take l_n) 61])) | none => .fail)
  | _, _ => .fail


theorem cloneM_sound : Sound Tryz.prog cod 23 s_cloneM := sound_runs (cfg := C_cloneSB) L_cloneSB_ok mixed Tryz.func23 rfl rfl _ fun args H r news hg b0 hb => by
  unfold s_cloneM at hg
  split at hg
  · skip
    split at hg
    · rename_i l hx0
      cases asInp_spec hx0
      simp only [T.gives, T.wp, Prod.mk.injEq] at hg
      obtain ⟨⟨q0, q1, q2⟩, rfl, rfl⟩ := hg
      exact cloneM_run _ _ _ _ b0 hb (by assumption) (by assumption) (by assumption)
    · exact hg.elim
  · exact hg.elim

noncomputable def L_cloneM : Sums cod := (23, .p s_cloneM) :: L_cloneSB
noncomputable def C_cloneM : Cfg cod := mkC L_cloneM

theorem L_cloneM_ok : Snd Tryz.prog cod L_cloneM := .cons cloneM_sound L_cloneSB_ok



noncomputable def s_cloneM0 : Summ cod := fun args _ => match args with
  | [.c (.slc h _ n _)] => .need (n = 0) (.ret (.c (.slc h 0 0 true), []))
  | _ => .fail
noncomputable def s_cloneMB : Summ cod := s_len s_cloneM0 s_cloneM


theorem cloneM0_sound : Sound Tryz.prog cod 23 s_cloneM0 := by
  refine ⟨cloneM_sound.enters, fun args H env w vs r news hro G ha hg => ?_⟩
  unfold s_cloneM0 at hg
  split at hg
  · rename_i x i n t
    obtain ⟨hn, hr⟩ := hg
    subst hn
    cases hr
    cases ha with
    | @cons _ v0 _ vs hx hxs =>
      cases hxs
      obtain ⟨hN, A, c, rfl, h1, h2, h3, h4⟩ := hx
      cases A with
      | none =>
        refine (cloneM_none c w).mono ?_
        rintro e w' ⟨rfl, rfl⟩
        exact ⟨_, env, rfl, EnvEq.refl _ _, ⟨hN, none, 0, rfl, Nat.le_refl _, by decide, fun _ => rfl, fun h => absurd h (by decide)⟩, by simpa using G, ⟨Below.refl _ _, Nat.le_refl _⟩⟩
      | some a =>
        refine (cloneM_zero a c w).mono ?_
        rintro e w' ⟨A, rfl, hb, hd⟩
        exact ⟨_, env, rfl, EnvEq.refl _ _, ⟨hN, A, 0, rfl, Nat.le_refl _, by decide, fun _ => rfl, fun h => absurd h (by decide)⟩, by simpa using G.below hb (Nat.le_refl _), ⟨hb, dl_mono hd⟩⟩
  · exact hg.elim
theorem cloneMB_sound : Sound Tryz.prog cod 23 s_cloneMB := Sound.len cloneM0_sound cloneM_sound

noncomputable def L_cloneMB : Sums cod := (23, .p s_cloneMB) :: L_cloneM
noncomputable def C_cloneMB : Cfg cod := mkC L_cloneMB

theorem L_cloneMB_ok : Snd Tryz.prog cod L_cloneMB := .cons cloneMB_sound L_cloneM_ok



noncomputable def s_delM : Summ cod := s_del 6 61


theorem delM_sound : SoundI Tryz.prog cod 36 s_delM := del_sound (zs := [.int .i64 0, .int .i64 0, .bool false, .string ⟨#[]⟩]) ⟨fun args w => enters_fn Tryz.func36 rfl rfl args w, rfl, fun b n cap i cur w h1 h2 h3 h4 h5 h6 => msg_delete b n cap i cur w h1 h2 h3 h4 h5 h6⟩

noncomputable def L_delM : Sums cod := (36, .i s_delM) :: L_cloneMB
noncomputable def C_delM : Cfg cod := mkC L_delM

theorem L_delM_ok : Snd Tryz.prog cod L_delM := .consI delM_sound L_cloneMB_ok



def cuts_rcut : Cuts := []

theorem rcut_t0 (n : Int) : symF C_delM cuts_rcut Tryz.f9.results.toList 0 400 [.code (codeOf Tryz.f9)] ⟨argsS Tryz.f9 [.c (.int .i64 n), .c (.int .i64 0), .c (.int .i64 79)], ([] : Heap cod)⟩ =
.need (i64ok (79 - 0)) (
.need (i64ok (79 - 0 + 1)) (
.need ((79 - 0 + 1 : Int) ≠ 0) (
 cond (decide (Int.tmod n (79 - 0 + 1) < 0)) (
 .need (i64ok (Int.tmod n (79 - 0 + 1) + (79 - 0 + 1))) (
 .need (i64ok (0 + (Int.tmod n (79 - 0 + 1) + (79 - 0 + 1)))) (
 .ret (.fin (.c (.int .i64 (0 + (Int.tmod n (79 - 0 + 1) + (79 - 0 + 1))))) [])))) (
 .need (i64ok (0 + Int.tmod n (79 - 0 + 1))) (
 .ret (.fin (.c (.int .i64 (0 + Int.tmod n (79 - 0 + 1)))) [])))))) := by kernel_rfl



theorem rcut_run (n : Int) (b0 : Base) (hb : b0.n = 0)  : Sym.Runs Tryz.prog b0 [.code (codeOf Tryz.f9)] ⟨argsS Tryz.f9 [.c (.int .i64 n), .c (.int .i64 0), .c (.int .i64 79)], ([] : Heap cod)⟩ (Sym.Ends Tryz.prog Tryz.f9 0 (.c (.int .i64 (n % 80))) []) := by
  refine Runs.go (cfg := C_delM) L_delM_ok mixed cuts_rcut 400 hb (rcut_t0 n) ?_
  simp only [T.wp, T.wp_cond, Aft, decide_eq_true_eq, and_true]
  have e : n.tmod (79 - 0 + 1) = if 0 ≤ n then n % 80 else -((-n) % 80) := by
    show n.tmod 80 = _
    by_cases c : 0 ≤ n
    · rw [if_pos c, Int.tmod_eq_emod_of_nonneg c]
    · rw [if_neg c]
      have : n = -(-n) := by omega
      conv => lhs; rw [this, Int.neg_tmod]
      rw [Int.tmod_eq_emod_of_nonneg (by omega)]
  rw [e]
  refine ⟨by unfold i64ok; omega, by unfold i64ok; omega, by decide, ?_⟩
  by_cases c : 0 ≤ n
  · rw [if_pos c]
    refine ite_no (by omega) ⟨by unfold i64ok; omega, ?_⟩
    rw [Int.zero_add]
  · rw [if_neg c]
    by_cases c2 : -((-n) % 80) < 0
    · refine ite_yes c2 ⟨by unfold i64ok; omega, by unfold i64ok; omega, ?_⟩
      rw [show 0 + (-((-n) % 80) + (79 - 0 + 1)) = n % 80 by omega]
    · refine ite_no c2 ⟨by unfold i64ok; omega, ?_⟩
      rw [show 0 + -((-n) % 80) = n % 80 by omega]



noncomputable def s_rcut : Summ cod := fun args H => match args, H with
  | [.c (.int .i64 n), .c (.int .i64 0), .c (.int .i64 79)], [] => .ret (.c (.int .i64 (n % 80)), [])
  | _, _ => .fail


theorem rcut_sound : Sound Tryz.prog cod 9 s_rcut := sound_runs (cfg := C_delM) L_delM_ok mixed Tryz.func9 rfl rfl _ fun args H r news hg b0 hb => by
  unfold s_rcut at hg
  split at hg
  · skip
    cases hg
    exact rcut_run _ b0 hb 
  · exact hg.elim

noncomputable def L_rcut : Sums cod := (9, .p s_rcut) :: L_delM
noncomputable def C_rcut : Cfg cod := mkC L_rcut

theorem L_rcut_ok : Snd Tryz.prog cod L_rcut := .cons rcut_sound L_delM_ok


end
end Go.Proofs.YtiolfkmkbccndaaGreatDoor
