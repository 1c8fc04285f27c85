/- Part of a claim: lemmas on the way to its theorem; each states its own conditions. -/
import Derived.Test.YtkfkfihjdohjfaaCa
import Derived.Test.YtkfkfihjdohjfaaCz
import Derived.Test.YtkfkfihjdohjfaaBd30
import Derived.Test.YtkfkfihjdohjfaaSym34
import Derived.Test.YtkfkfihjdohjfaaBd32
import Derived.Test.YtkfkfihjdohjfaaBd33
import Derived.Test.YtkfkfihjdohjfaaSym38
namespace Go.Proofs.Ytkfkfihjdohjfaa
open Sym Go.RowKit
noncomputable section
set_option maxRecDepth 100000
set_option maxHeartbeats 4000000



def cuts_clone : Cuts := []

theorem clone_t0 (l : List (List UInt8 × Int × Int)) (l_t : Bool) (l_i l_n : Nat) : symF C_cwrg cuts_clone Try.f55.results.toList 1 400 [.code (codeOf Try.f55)] ⟨argsS Try.f55 [.c (.slc 0 l_i l_n l_t)], ([.inp 5 l] : Heap cod)⟩ =
.need ((0 : Nat) < l_n) (
.need (List.length (List.take l_n (List.drop l_i l)) = l_n) (
.need (0 = 0) (
.need (((0 : Nat) < List.length (List.take l_n (List.drop l_i l)) ∧ 0 + List.length (List.take l_n (List.drop l_i l)) ≤ 1000000)) (
.ret (.fin (.c (.own 1 (0 + List.length (List.take l_n (List.drop l_i l))))) [.own 5 ([] ++ (List.take l_n (List.drop l_i l))) 56]))))) := by kernel_rfl



theorem clone_run (l : List (List UInt8 × Int × Int)) (l_t : Bool) (l_i l_n : Nat) (b0 : Base) (hb : b0.n = 1) (h0 : l_i + l_n ≤ List.length l) (h1 : 0 < l_n) (h2 : l_n ≤ 1000000) : Sym.Runs Try.prog b0 [.code (codeOf Try.f55)] ⟨argsS Try.f55 [.c (.slc 0 l_i l_n l_t)], ([.inp 5 l] : Heap cod)⟩ (Sym.Ends Try.prog Try.f55 1 (.c (.own 1 l_n)) [.own 5 ((l.drop l_i).take l_n) 56]) := by
  refine Runs.go (cfg := C_cwrg) L_cwrg_ok mixed cuts_clone 400 hb (clone_t0 l l_t l_i l_n) ?_
  have e : (List.take l_n (List.drop l_i l)).length = l_n := by rw [List.length_take, List.length_drop]; omega
  simp only [T.wp, T.wp_cond, Aft, Int.ofNat_eq_natCast, decide_eq_true_eq, and_true, true_and, Nat.zero_add, Bool.not_eq_true', decide_eq_false_iff_not, e, List.nil_append]
  refine ⟨h1, ⟨h1, h2⟩, ?_⟩
  simp [e]
  rfl



noncomputable def s_clone : Summ cod := fun args H => match args, H with
  | [.c (.slc 0 l_i l_n l_t)], [o0] => (match o0.asInp 5 with | some l => .need ((l_i + l_n ≤ List.length l) ∧ (0 < l_n) ∧ (l_n ≤ 1000000)) (.ret (.c (.own 1 l_n), [.own 5 ((l.drop l_i).take l_n) 56])) | none => .fail)
  | _, _ => .fail


theorem clone_sound : Sound Try.prog cod 55 s_clone := sound_runs (cfg := C_cwrg) L_cwrg_ok mixed Try.func55 rfl rfl _ fun args H r news hg b0 hb => by
  unfold s_clone at hg
  split at hg
  · skip
    split at hg
    · rename_i l hx0
      cases asInp_spec hx0
      simp only [T.gives, T.wp, Prod.mk.injEq] at hg
      obtain ⟨⟨q0, q1, q2⟩, rfl, rfl⟩ := hg
      exact clone_run _ _ _ _ b0 hb (by assumption) (by assumption) (by assumption)
    · exact hg.elim
  · exact hg.elim

noncomputable def L_clone : Sums cod := (55, .p s_clone) :: L_cwrg
noncomputable def C_clone : Cfg cod := mkC L_clone

theorem L_clone_ok : Snd Try.prog cod L_clone := .cons clone_sound L_cwrg_ok



noncomputable def s_clone0 : Summ cod := fun args _ => match args with
  | [.c (.slc h _ n _)] => .need (n = 0) (.ret (.c (.slc h 0 0 true), []))
  | _ => .fail
/-- By the number of elements: none, or some. -/
noncomputable def s_len (s1 s2 : Summ cod) : Summ cod := fun args H => match args with
  | [.c (.slc _ _ n _)] => .ite (decide (n = 0)) (s1 args H) (s2 args H)
  | _ => .fail
noncomputable def s_cloneB : Summ cod := s_len s_clone0 s_clone


theorem Sound.len {g : FuncId} {s1 s2 : Summ cod} (h1 : Sound Try.prog cod g s1) (h2 : Sound Try.prog cod g s2) : Sound Try.prog cod g (s_len s1 s2) := by
  refine ⟨h1.enters, fun args H env w vs r news hro G ha hg => ?_⟩
  unfold s_len at hg
  split at hg
  · rename_i x i n t
    by_cases c : n = 0
    · exact h1.calls _ H env w vs r news hro G ha (hg.1 (by simp [c]))
    · exact h2.calls _ H env w vs r news hro G ha (hg.2 (by simp [c]))
  · exact hg.elim
theorem clone0_sound : Sound Try.prog cod 55 s_clone0 := by
  refine ⟨clone_sound.enters, fun args H env w vs r news hro G ha hg => ?_⟩
  unfold s_clone0 at hg
  split at hg
  · rename_i x i n t
    obtain ⟨hn, hr⟩ := hg
    subst hn
    cases hr
    cases ha with
    | @cons _ v0 _ vs hx hxs =>
      cases hxs
      obtain ⟨hN, A, c, rfl, h1, h2, h3, h4⟩ := hx
      cases A with
      | none =>
        refine (cloneC_none c w).mono ?_
        rintro e w' ⟨rfl, rfl⟩
        exact ⟨_, env, rfl, EnvEq.refl _ _, ⟨hN, none, 0, rfl, Nat.le_refl _, by decide, fun _ => rfl, fun h => absurd h (by decide)⟩, by simpa using G, ⟨Below.refl _ _, Nat.le_refl _⟩⟩
      | some a =>
        refine (cloneC_zero a c w).mono ?_
        rintro e w' ⟨A, rfl, hb, hd⟩
        exact ⟨_, env, rfl, EnvEq.refl _ _, ⟨hN, A, 0, rfl, Nat.le_refl _, by decide, fun _ => rfl, fun h => absurd h (by decide)⟩, by simpa using G.below hb (Nat.le_refl _), ⟨hb, dl_mono hd⟩⟩
  · exact hg.elim
theorem cloneB_sound : Sound Try.prog cod 55 s_cloneB := Sound.len clone0_sound clone_sound

noncomputable def L_cloneB : Sums cod := (55, .p s_cloneB) :: L_clone
noncomputable def C_cloneB : Cfg cod := mkC L_cloneB

theorem L_cloneB_ok : Snd Try.prog cod L_cloneB := .cons cloneB_sound L_clone_ok



noncomputable def s_insC : Summ cod := s_ins 5 56
noncomputable def s_delC : Summ cod := s_del 5 56


theorem insC_sound : SoundI Try.prog cod 51 s_insC := ins_sound ⟨fun args w => enters_fn Try.func51 rfl rfl args w, fun v n i vb vc xs vs tv w h1 h2 h3 h4 h5 h6 h7 h8 => co_insert v n i vb vc xs vs tv w h1 h2 h3 h4 h5 h6 h7 h8, fun A vb vc vs tv w h1 h2 h3 => co_insert0 A vb vc vs tv w h1 h2 h3⟩
theorem delC_sound : SoundI Try.prog cod 30 s_delC := del_sound (zs := [.string ⟨#[]⟩, .int .i64 0, .int .i64 0]) ⟨fun args w => enters_fn Try.func30 rfl rfl args w, rfl, fun b n cap i cur w h1 h2 h3 h4 h5 h6 => co_delete b n cap i cur w h1 h2 h3 h4 h5 h6⟩

noncomputable def L_insC : Sums cod := (51, .i s_insC) :: L_cloneB
noncomputable def C_insC : Cfg cod := mkC L_insC

theorem L_insC_ok : Snd Try.prog cod L_insC := .consI insC_sound L_cloneB_ok


noncomputable def L_delC : Sums cod := (30, .i s_delC) :: L_insC
noncomputable def C_delC : Cfg cod := mkC L_delC

theorem L_delC_ok : Snd Try.prog cod L_delC := .consI delC_sound L_insC_ok



namespace F
def atC (l : List Co) (k : List UInt8) : Co := l.getD (posC l k) co0
def cok (k : List UInt8) (f t : Int) : Co := (k, f, t)
def tunE (l : List Co) (k : List UInt8) (f t : Int) : Int := if named k then (if vfr f && !wrg t then (if hasC l k then (if t < (atC l k).2.2 then 12 else 0) else (if l.length = 24 then 9 else 0)) else 4) else 6
def tunL (l : List Co) (k : List UInt8) (f t : Int) : List Co := if tunE l k f t = 0 then (if hasC l k then l.set (posC l k) (cok k f t) else l.take (posC l k) ++ [cok k f t] ++ l.drop (posC l k)) else l
def heaE (l : List Co) (k : List UInt8) (f t : Int) : Int := if hasC l k then (if (atC l k).2.1 = f then (if t < (atC l k).2.2 then 12 else (if 200000 < t then 12 else 0)) else 11) else 8
def heaL (l : List Co) (k : List UInt8) (f t : Int) : List Co := if heaE l k f t = 0 then l.set (posC l k) ((atC l k).1, (atC l k).2.1, t) else l
def levE (l : List Co) (k : List UInt8) : Int := if hasC l k then 0 else 8
def levL (l : List Co) (k : List UInt8) : List Co := if hasC l k then l.eraseIdx (posC l k) else l
end F


def cuts_chea : Cuts := []

theorem chea_t0 (l : List (List UInt8 × Int × Int)) (k : List UInt8) (f t : Int) : symI C_delC cuts_chea Try.f28.results.toList ([.blk [.own 1 (List.length l)] 79, .own 5 l 56] : Heap cod) 400 [.code (codeOf Try.f28)] ⟨argsS Try.f28 [.c (.ptr 0 0 0), .c (.str k), .c (.int .i64 f), .c (.int .i64 t)], ([.blk [.own 1 (List.length l)] 79, .own 5 l 56] : Heap cod)⟩ =
.need (((0 = 0 ∧ List.length l = List.length l) ∧ (F.asc l = true ∧ List.length l ≤ 100000))) (
 cond (!F.hasC l k) (
 .ret (.fin (.c (.int .i64 8)) [.blk [.own 1 (List.length l)] 79, .own 5 l 56])) (
 .need (((0 : Int) ≤ Int.ofNat (F.posC l k) ∧ Int.ofNat (F.posC l k) < Int.ofNat (List.length l))) (
 .need (0 + Int.toNat (Int.ofNat (F.posC l k)) < List.length l) (
 cond (!decide ((List.getD l (0 + Int.toNat (Int.ofNat (F.posC l k))) (cod 5).d).2.1 = f)) (
  .ret (.fin (.c (.int .i64 11)) [.blk [.own 1 (List.length l)] 79, .own 5 l 56])) (
  .need (((0 : Int) ≤ Int.ofNat (F.posC l k) ∧ Int.ofNat (F.posC l k) < Int.ofNat (List.length l))) (
  .need (0 + Int.toNat (Int.ofNat (F.posC l k)) < List.length l) (
  cond (decide (t < (List.getD l (0 + Int.toNat (Int.ofNat (F.posC l k))) (cod 5).d).2.2)) (
   .ret (.fin (.c (.int .i64 12)) [.blk [.own 1 (List.length l)] 79, .own 5 l 56])) (
   cond (decide (200000 < t)) (
    .ret (.fin (.c (.int .i64 12)) [.blk [.own 1 (List.length l)] 79, .own 5 l 56])) (
    .need (((0 : Int) ≤ Int.ofNat (F.posC l k) ∧ Int.ofNat (F.posC l k) < Int.ofNat (List.length l))) (
    .need (0 + Int.toNat (Int.ofNat (F.posC l k)) < List.length l) (
    .ret (.fin (.c (.int .i64 0)) [.blk [.own 1 (List.length l)] 79, .own 5 (List.set l (0 + Int.toNat (Int.ofNat (F.posC l k)))   ((List.getD l (0 + Int.toNat (Int.ofNat (F.posC l k))) (cod 5).d).1,     (List.getD l (0 + Int.toNat (Int.ofNat (F.posC l k))) (cod 5).d).2.1, t)) 56])))))))))))) := by kernel_rfl



theorem chea_run (l : List (List UInt8 × Int × Int)) (k : List UInt8) (f t : Int) (b0 : Base) (hb : b0.n = 2) (h0 : F.asc l = true) (h1 : l.length ≤ 1000) : Sym.Runs Try.prog b0 [.code (codeOf Try.f28)] ⟨argsS Try.f28 [.c (.ptr 0 0 0), .c (.str k), .c (.int .i64 f), .c (.int .i64 t)], ([.blk [.own 1 (List.length l)] 79, .own 5 l 56] : Heap cod)⟩ (Sym.EndsI Try.prog Try.f28 ([.blk [.own 1 (List.length l)] 79, .own 5 l 56] : Heap cod) (.c (.int .i64 (F.heaE l k f t))) [.blk [.own 1 (List.length (F.heaL l k f t))] 79, .own 5 (F.heaL l k f t) 56]) := by
  refine Runs.goI (cfg := C_delC) L_delC_ok mixed cuts_chea 400 (H := ([.blk [.own 1 (List.length l)] 79, .own 5 l 56] : Heap cod)) hb (chea_t0 l k f t) ?_
  have d0 : (cod 5).d = F.co0 := rfl
  simp only [T.wp, T.wp_cond, Aft, Int.ofNat_eq_natCast, decide_eq_true_eq, and_true, true_and, Nat.zero_add, Bool.not_eq_true', decide_eq_false_iff_not, Nat.zero_add, Int.toNat_natCast, d0]
  refine ⟨⟨h0, by omega⟩, ?_⟩
  have bad : ∀ e : Int, e ≠ 0 → F.heaE l k f t = e → (SV.c (.int .i64 e) : SV) = .c (.int .i64 (F.heaE l k f t)) ∧ (([.blk [.own 1 (List.length l)] 79, .own 5 l 56] : Heap cod)) = [.blk [.own 1 (List.length (F.heaL l k f t))] 79, .own 5 (F.heaL l k f t) 56] := by
    intro e he eE
    have eL : F.heaL l k f t = l := by unfold F.heaL; rw [if_neg (by rw [eE]; exact he)]
    rw [eE, eL]
    exact ⟨rfl, rfl⟩
  cases c1 : F.hasC l k with
  | false => exact ite_yes rfl (bad 8 (by decide) (by unfold F.heaE; rw [c1]; rfl))
  | true =>
    have hp := hasC_pos (k := k) h0
    rw [c1] at hp
    have hlt : F.posC l k < l.length := by
      by_cases q : F.posC l k < l.length
      · exact q
      · rw [decide_eq_false q] at hp; cases hp
    have hlt' : ((F.posC l k : Nat) : Int) < (l.length : Int) := by omega
    have ea : l.getD (F.posC l k) F.co0 = F.atC l k := rfl
    rw [ea]
    refine ite_no (by decide) ⟨⟨by omega, hlt'⟩, hlt, ?_⟩
    by_cases c2 : (F.atC l k).2.1 = f
    · refine ite_no (fun q => q c2) ⟨⟨by omega, hlt'⟩, hlt, ?_⟩
      by_cases c3 : t < (F.atC l k).2.2
      · exact ite_yes c3 (bad 12 (by decide) (by unfold F.heaE; rw [c1, if_pos rfl, if_pos c2, if_pos c3]))
      · refine ite_no c3 ?_
        by_cases c4 : 200000 < t
        · exact ite_yes c4 (bad 12 (by decide) (by unfold F.heaE; rw [c1, if_pos rfl, if_pos c2, if_neg c3, if_pos c4]))
        · have eE : F.heaE l k f t = 0 := by unfold F.heaE; rw [c1, if_pos rfl, if_pos c2, if_neg c3, if_neg c4]
          have eL : F.heaL l k f t = l.set (F.posC l k) ((F.atC l k).1, (F.atC l k).2.1, t) := by unfold F.heaL; rw [if_pos eE]
          rw [eE, eL, List.length_set]
          exact ite_no c4 ⟨⟨by omega, hlt'⟩, hlt, rfl, rfl⟩
    · exact ite_yes c2 (bad 11 (by decide) (by unfold F.heaE; rw [c1, if_pos rfl, if_neg c2]))



noncomputable def s_chea : Summ cod := fun args H => match args, H with
  | [.c (.ptr 0 0 0), .c (.str k), .c (.int .i64 f), .c (.int .i64 t)], [.blk [.own 1 q] 79, o1] => (match o1.asOwn 5 56 with | some l => .need ((.blk [.own 1 q] 79 : HObj cod) = .blk [.own 1 (List.length l)] 79) (.need ((F.asc l = true) ∧ (l.length ≤ 1000)) (.ret (.c (.int .i64 (F.heaE l k f t)), [.blk [.own 1 (List.length (F.heaL l k f t))] 79, .own 5 (F.heaL l k f t) 56]))) | none => .fail)
  | _, _ => .fail


theorem chea_sound : SoundI Try.prog cod 28 s_chea := tree_soundI (cfg := C_delC) Try.func28 rfl rfl _ fun args H r H' hg b0 hb => by
  unfold s_chea at hg
  split at hg
  · skip
    split at hg
    · rename_i l hx1
      cases asOwn_spec hx1
      obtain ⟨ot0, hg⟩ := hg
      cases ot0
      obtain ⟨hq, hg⟩ := hg
      obtain ⟨q0, q1⟩ := hq
      cases hg
      exact chea_run _ _ _ _ b0 hb (by assumption) (by assumption)
    · exact hg.elim
  · exact hg.elim

noncomputable def L_chea : Sums cod := (28, .i s_chea) :: L_delC
noncomputable def C_chea : Cfg cod := mkC L_chea

theorem L_chea_ok : Snd Try.prog cod L_chea := .consI chea_sound L_delC_ok



def cuts_clev : Cuts := []

theorem clev_t0 (l : List (List UInt8 × Int × Int)) (k : List UInt8) : symI C_chea cuts_clev Try.f29.results.toList ([.blk [.own 1 (List.length l)] 79, .own 5 l 56] : Heap cod) 400 [.code (codeOf Try.f29)] ⟨argsS Try.f29 [.c (.ptr 0 0 0), .c (.str k)], ([.blk [.own 1 (List.length l)] 79, .own 5 l 56] : Heap cod)⟩ =
.need (((0 = 0 ∧ List.length l = List.length l) ∧ (F.asc l = true ∧ List.length l ≤ 100000))) (
 cond (!F.hasC l k) (
 .ret (.fin (.c (.int .i64 8)) [.blk [.own 1 (List.length l)] 79, .own 5 l 56])) (
 .need (i64ok (Int.ofNat (F.posC l k) + 1)) (
 .need (((0 : Int) ≤ Int.ofNat (F.posC l k) ∧ (Int.ofNat (F.posC l k) < Int.ofNat (List.length l) ∧ Int.ofNat (F.posC l k) + 1 = Int.ofNat (F.posC l k) + 1))) (
 .ret (.fin (.c (.int .i64 0)) [.blk [.own 1 (List.length l - 1)] 79, .own 5 (List.eraseIdx l (Int.toNat (Int.ofNat (F.posC l k)))) 56]))))) := by kernel_rfl



theorem clev_run (l : List (List UInt8 × Int × Int)) (k : List UInt8) (b0 : Base) (hb : b0.n = 2) (h0 : F.asc l = true) (h1 : l.length ≤ 1000) : Sym.Runs Try.prog b0 [.code (codeOf Try.f29)] ⟨argsS Try.f29 [.c (.ptr 0 0 0), .c (.str k)], ([.blk [.own 1 (List.length l)] 79, .own 5 l 56] : Heap cod)⟩ (Sym.EndsI Try.prog Try.f29 ([.blk [.own 1 (List.length l)] 79, .own 5 l 56] : Heap cod) (.c (.int .i64 (F.levE l k))) [.blk [.own 1 (List.length (F.levL l k))] 79, .own 5 (F.levL l k) 56]) := by
  refine Runs.goI (cfg := C_chea) L_chea_ok mixed cuts_clev 400 (H := ([.blk [.own 1 (List.length l)] 79, .own 5 l 56] : Heap cod)) hb (clev_t0 l k) ?_
  simp only [T.wp, T.wp_cond, Aft, Int.ofNat_eq_natCast, decide_eq_true_eq, and_true, true_and, Nat.zero_add, Bool.not_eq_true', decide_eq_false_iff_not, Int.toNat_natCast]
  refine ⟨⟨h0, by omega⟩, ?_⟩
  unfold F.levE F.levL
  cases c1 : F.hasC l k with
  | false => exact ite_yes rfl ⟨rfl, rfl⟩
  | true =>
    have hp := hasC_pos (k := k) h0
    rw [c1] at hp
    have hlt : F.posC l k < l.length := by
      by_cases q : F.posC l k < l.length
      · exact q
      · rw [decide_eq_false q] at hp; cases hp
    rw [if_pos rfl, if_pos rfl, List.length_eraseIdx_of_lt hlt]
    exact ite_no (by decide) ⟨by unfold Sym.i64ok; omega, ⟨by omega, by omega⟩, rfl, rfl⟩



noncomputable def s_clev : Summ cod := fun args H => match args, H with
  | [.c (.ptr 0 0 0), .c (.str k)], [.blk [.own 1 q] 79, o1] => (match o1.asOwn 5 56 with | some l => .need ((.blk [.own 1 q] 79 : HObj cod) = .blk [.own 1 (List.length l)] 79) (.need ((F.asc l = true) ∧ (l.length ≤ 1000)) (.ret (.c (.int .i64 (F.levE l k)), [.blk [.own 1 (List.length (F.levL l k))] 79, .own 5 (F.levL l k) 56]))) | none => .fail)
  | _, _ => .fail


theorem clev_sound : SoundI Try.prog cod 29 s_clev := tree_soundI (cfg := C_chea) Try.func29 rfl rfl _ fun args H r H' hg b0 hb => by
  unfold s_clev at hg
  split at hg
  · skip
    split at hg
    · rename_i l hx1
      cases asOwn_spec hx1
      obtain ⟨ot0, hg⟩ := hg
      cases ot0
      obtain ⟨hq, hg⟩ := hg
      obtain ⟨q0, q1⟩ := hq
      cases hg
      exact clev_run _ _ b0 hb (by assumption) (by assumption)
    · exact hg.elim
  · exact hg.elim

noncomputable def L_clev : Sums cod := (29, .i s_clev) :: L_chea
noncomputable def C_clev : Cfg cod := mkC L_clev

theorem L_clev_ok : Snd Try.prog cod L_clev := .consI clev_sound L_chea_ok



namespace F
def onC (f : Int) (l : List Co) : List (List UInt8) := (l.filter fun x => decide (x.2.1 = f)).map Prod.fst
end F


def cuts_con : Cuts := [(3, [1, 11, 12, 13, 5], 4)]

theorem con_t0 (l : List (List UInt8 × Int × Int)) (l_t : Bool) (f : Int) : symF C_clev cuts_con Try.f37.results.toList 2 400 [.code (codeOf Try.f37)] ⟨argsS Try.f37 [.c (.ptr 0 0 0), .c (.int .i64 f)], ([.rblk [.slc 1 0 (List.length l) l_t], .inp 5 l] : Heap cod)⟩ =
.ret (.cut (cutAt Try.f37 3) ⟨tmG 14 [(1, .c (.int .i64 f)), (3, .c (.own 3 0)), (5, .c (.slc 1 0 (List.length l) l_t)), (0, .c (.int .i64 (Int.ofNat (List.length l)))), (0, .c (.int .i64 0))], [.rblk [.slc 1 0 (List.length l) l_t], .inp 5 l, .own 2 [] 9, .own 2 [] 9]⟩) := by kernel_rfl


noncomputable def st_con_3 (l : List (List UInt8 × Int × Int)) (l_t : Bool) (f : Int) (j : Int) (ts : List (List UInt8)) (q : Nat) : St cod := ⟨tmG 14 [(1, .c (.int .i64 f)), (3, .c (.own 3 q)), (5, .c (.slc 1 0 (List.length l) l_t)), (0, .c (.int .i64 (Int.ofNat (List.length l)))), (0, .c (.int .i64 j))], ([.rblk [.slc 1 0 (List.length l) l_t], .inp 5 l, .own 2 [] 9, .own 2 ts 9] : Heap cod)⟩


theorem con_t3 (l : List (List UInt8 × Int × Int)) (l_t : Bool) (f : Int) (j : Int) (ts : List (List UInt8)) (q : Nat) : symF C_clev cuts_con Try.f37.results.toList 2 400 (cutAt Try.f37 3) (st_con_3 l l_t f j ts q) =
 cond (decide (j < Int.ofNat (List.length l))) (
 .need (((0 : Int) ≤ j ∧ j < Int.ofNat (List.length l))) (
 .need (0 + Int.toNat j < List.length l) (
 cond (decide ((List.getD l (0 + Int.toNat j) (cod 5).d).2.1 = f)) (
  .need (1 = 1) (
  .need (q + 1 ≤ 1000000) (
  .need (i64ok (j + 1)) (
  .ret (.cut (cutAt Try.f37 3) ⟨tmG 14 [(1, .c (.int .i64 f)), (3, .c (.own 3 (q + 1))), (5, .c (.slc 1 0 (List.length l) l_t)), (0, .c (.int .i64 (Int.ofNat (List.length l)))), (0, .c (.int .i64 (j + 1)))], [.rblk [.slc 1 0 (List.length l) l_t], .inp 5 l, .own 2 [] 9, .own 2 (ts ++ ([(List.getD l (0 + Int.toNat j) (cod 5).d).1])) 9]⟩))))) (
  .need (i64ok (j + 1)) (
  .ret (.cut (cutAt Try.f37 3) ⟨tmG 14 [(1, .c (.int .i64 f)), (3, .c (.own 3 (q))), (5, .c (.slc 1 0 (List.length l) l_t)), (0, .c (.int .i64 (Int.ofNat (List.length l)))), (0, .c (.int .i64 (j + 1)))], [.rblk [.slc 1 0 (List.length l) l_t], .inp 5 l, .own 2 [] 9, .own 2 ts 9]⟩)))))) (
 .ret (.fin (.c (.own 2 (q))) [.own 2 ts 9])) := by kernel_rfl



theorem con_run (l : List (List UInt8 × Int × Int)) (l_t : Bool) (f : Int) (b0 : Base) (hb : b0.n = 2) (h0 : l.length ≤ 100000) : Sym.Runs Try.prog b0 [.code (codeOf Try.f37)] ⟨argsS Try.f37 [.c (.ptr 0 0 0), .c (.int .i64 f)], ([.rblk [.slc 1 0 (List.length l) l_t], .inp 5 l] : Heap cod)⟩ (Sym.Ends Try.prog Try.f37 2 (.c (.own 2 (List.length (F.onC f l)))) [.own 2 (F.onC f l) 9]) := by
  have key : ∀ (m : Nat) (j : Int) (ts : List (List UInt8)), 0 ≤ j → j + m = l.length → ts ++ F.onC f (l.drop j.toNat) = F.onC f l → (ts.length : Int) ≤ j →
      Sym.Runs Try.prog b0 (cutAt Try.f37 3) (st_con_3 l l_t f j ts ts.length) (Sym.Ends Try.prog Try.f37 2 (.c (.own 2 (List.length (F.onC f l)))) [.own 2 (F.onC f l) 9]) := by
    intro m
    induction m with
    | zero =>
      intro j ts hj hm hs hl
      refine Runs.go (cfg := C_clev) L_clev_ok mixed cuts_con 400 hb (con_t3 l l_t f j ts ts.length) ?_
      have h1' : ¬ j < (l.length : Int) := by omega
      rw [drop_end l h1'] at hs
      have e : ts = F.onC f l := by rw [← hs]; simp [F.onC]
      simp only [T.wp, T.wp_cond, Aft, Int.ofNat_eq_natCast, decide_eq_true_eq, and_true, true_and, Nat.zero_add, Bool.not_eq_true', decide_eq_false_iff_not]
      rw [← e]
      exact ite_no h1' ⟨rfl, rfl⟩
    | succ m ih =>
      intro j ts hj hm hs hl
      refine Runs.go (cfg := C_clev) L_clev_ok mixed cuts_con 400 hb (con_t3 l l_t f j ts ts.length) ?_
      have h1' : j < (l.length : Int) := by omega
      have d0 : (cod 5).d = F.co0 := rfl
      rw [drop_at l F.co0 hj h1'] at hs
      have n1 := ih (j + 1) ts (by omega) (by omega)
      have n2 := ih (j + 1) (ts ++ [(l.getD j.toNat F.co0).1]) (by omega) (by omega)
      simp only [T.wp, T.wp_cond, Aft, Int.ofNat_eq_natCast, decide_eq_true_eq, and_true, true_and, Nat.zero_add, Bool.not_eq_true', decide_eq_false_iff_not, Nat.zero_add, d0]
      generalize l.getD j.toNat F.co0 = p at *
      refine ite_yes h1' ⟨⟨hj, h1'⟩, by omega, ?_⟩
      unfold F.onC at hs n1 n2
      by_cases e : p.2.1 = f
      · rw [List.filter_cons_of_pos (by simp [e])] at hs
        have el : (ts ++ [p.1]).length = ts.length + 1 := by simp
        rw [el] at n2
        exact ite_yes e ⟨by omega, by unfold Sym.i64ok; omega, n2 (by rw [← hs]; simp) (by omega)⟩
      · rw [List.filter_cons_of_neg (by simp [e])] at hs
        exact ite_no e ⟨by unfold Sym.i64ok; omega, n1 hs (by omega)⟩
  refine Runs.go (cfg := C_clev) L_clev_ok mixed cuts_con 400 hb (con_t0 l l_t f) ?_
  simp only [T.wp, T.wp_cond, Aft, Int.ofNat_eq_natCast, decide_eq_true_eq, and_true, true_and, Nat.zero_add, Bool.not_eq_true', decide_eq_false_iff_not]
  exact key l.length 0 [] (by omega) (by omega) (by simp) (by simp)



noncomputable def s_con : Summ cod := fun args H => match args, H with
  | [.c (.ptr 0 0 0), .c (.int .i64 f)], [.rblk [.slc 1 l_i l_n l_t], o1] => (match o1.asInp 5 with | some l => .need ((l_i = 0 ∧ l_n = List.length l) ∧ (l.length ≤ 100000)) (.ret (.c (.own 2 (List.length (F.onC f l))), [.own 2 (F.onC f l) 9])) | none => .fail)
  | _, _ => .fail


theorem con_sound : Sound Try.prog cod 37 s_con := sound_runs (cfg := C_clev) L_clev_ok mixed Try.func37 rfl rfl _ fun args H r news hg b0 hb => by
  unfold s_con at hg
  split at hg
  · skip
    split at hg
    · rename_i l hx1
      cases asInp_spec hx1
      simp only [T.gives, T.wp, Prod.mk.injEq] at hg
      obtain ⟨⟨⟨rfl, rfl⟩, q1⟩, rfl, rfl⟩ := hg
      exact con_run _ _ _ b0 hb (by assumption)
    · exact hg.elim
  · exact hg.elim

noncomputable def L_con : Sums cod := (37, .p s_con) :: L_clev
noncomputable def C_con : Cfg cod := mkC L_con

theorem L_con_ok : Snd Try.prog cod L_con := .cons con_sound L_clev_ok


end
end Go.Proofs.Ytkfkfihjdohjfaa
