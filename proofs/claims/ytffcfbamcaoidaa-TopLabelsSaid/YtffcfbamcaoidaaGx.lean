/- Part of a claim: lemmas on the way to its theorem; each states its own conditions. -/
import Derived.Test.YtffcfbamcaoidaaGw
import Derived.Test.YtffcfbamcaoidaaSym24
import Derived.Test.YtffcfbamcaoidaaGe
namespace Go.Proofs.Ytffcfbamcaoidaa
open Sym Go.RowKit
noncomputable section
set_option maxRecDepth 100000
set_option maxHeartbeats 4000000

namespace F
def eqI (a b : List Int) : Bool := decide (a = b)
def rcut (n lo hi : Int) : Int := lo + n % (hi - lo + 1)
end F


def cuts_clone : Cuts := []

theorem clone_t0 (l : List (Int × Int × Int × Int)) (l_t : Bool) (l_i l_n : Nat) : symF C_lplace cuts_clone Try.f34.results.toList 1 400 [.code (codeOf Try.f34)] ⟨argsS Try.f34 [.c (.slc 0 l_i l_n l_t)], ([.inp 4 l] : Heap cod)⟩ =
.need ((0 : Nat) < l_n) (
.need (List.length (List.take l_n (List.drop l_i l)) = l_n) (
.need (0 = 0) (
.need (((0 : Nat) < List.length (List.take l_n (List.drop l_i l)) ∧ 0 + List.length (List.take l_n (List.drop l_i l)) ≤ 1000000)) (
.ret (.fin (.c (.own 1 (0 + List.length (List.take l_n (List.drop l_i l))))) [.own 4 ([] ++ (List.take l_n (List.drop l_i l))) 63]))))) := by kernel_rfl



theorem clone_run (l : List (Int × Int × Int × Int)) (l_t : Bool) (l_i l_n : Nat) (b0 : Base) (hb : b0.n = 1) (h0 : l_i + l_n ≤ List.length l) (h1 : 0 < l_n) (h2 : l_n ≤ 1000000) : Sym.Runs Try.prog b0 [.code (codeOf Try.f34)] ⟨argsS Try.f34 [.c (.slc 0 l_i l_n l_t)], ([.inp 4 l] : Heap cod)⟩ (Sym.Ends Try.prog Try.f34 1 (.c (.own 1 l_n)) [.own 4 ((l.drop l_i).take l_n) 63]) := by
  refine Runs.go (cfg := C_lplace) L_lplace_ok mixed cuts_clone 400 hb (clone_t0 l l_t l_i l_n) ?_
  have e : (List.take l_n (List.drop l_i l)).length = l_n := by rw [List.length_take, List.length_drop]; omega
  simp only [T.wp, T.wp_cond, Aft, Int.ofNat_eq_natCast, decide_eq_true_eq, and_true, true_and, Nat.zero_add, Bool.not_eq_true', decide_eq_false_iff_not, e, List.nil_append]
  refine ⟨h1, ⟨h1, h2⟩, ?_⟩
  simp [e]
  rfl



noncomputable def s_clone : Summ cod := fun args H => match args, H with
  | [.c (.slc 0 l_i l_n l_t)], [o0] => (match o0.asInp 4 with | some l => .need ((l_i + l_n ≤ List.length l) ∧ (0 < l_n) ∧ (l_n ≤ 1000000)) (.ret (.c (.own 1 l_n), [.own 4 ((l.drop l_i).take l_n) 63])) | none => .fail)
  | _, _ => .fail


theorem clone_sound : Sound Try.prog cod 34 s_clone := sound_runs (cfg := C_lplace) L_lplace_ok mixed Try.func34 rfl rfl _ fun args H r news hg b0 hb => by
  unfold s_clone at hg
  split at hg
  · skip
    split at hg
    · rename_i l hx0
      cases asInp_spec hx0
      simp only [T.gives, T.wp, Prod.mk.injEq] at hg
      obtain ⟨⟨q0, q1, q2⟩, rfl, rfl⟩ := hg
      exact clone_run _ _ _ _ b0 hb (by assumption) (by assumption) (by assumption)
    · exact hg.elim
  · exact hg.elim

noncomputable def L_clone : Sums cod := (34, .p s_clone) :: L_lplace
noncomputable def C_clone : Cfg cod := mkC L_clone

theorem L_clone_ok : Snd Try.prog cod L_clone := .cons clone_sound L_lplace_ok



noncomputable def s_clone0 : Summ cod := fun args _ => match args with
  | [.c (.slc h _ n _)] => .need (n = 0) (.ret (.c (.slc h 0 0 true), []))
  | _ => .fail
/-- By the number of elements: none, or some. -/
noncomputable def s_len (s1 s2 : Summ cod) : Summ cod := fun args H => match args with
  | [.c (.slc _ _ n _)] => .ite (decide (n = 0)) (s1 args H) (s2 args H)
  | _ => .fail
noncomputable def s_cloneB : Summ cod := s_len s_clone0 s_clone


theorem Sound.len {g : FuncId} {s1 s2 : Summ cod} (h1 : Sound Try.prog cod g s1) (h2 : Sound Try.prog cod g s2) : Sound Try.prog cod g (s_len s1 s2) := by
  refine ⟨h1.enters, fun args H env w vs r news hro G ha hg => ?_⟩
  unfold s_len at hg
  split at hg
  · rename_i x i n t
    by_cases c : n = 0
    · exact h1.calls _ H env w vs r news hro G ha (hg.1 (by simp [c]))
    · exact h2.calls _ H env w vs r news hro G ha (hg.2 (by simp [c]))
  · exact hg.elim
theorem clone0_sound : Sound Try.prog cod 34 s_clone0 := by
  refine ⟨clone_sound.enters, fun args H env w vs r news hro G ha hg => ?_⟩
  unfold s_clone0 at hg
  split at hg
  · rename_i x i n t
    obtain ⟨hn, hr⟩ := hg
    subst hn
    cases hr
    cases ha with
    | @cons _ v0 _ vs hx hxs =>
      cases hxs
      obtain ⟨hN, A, c, rfl, h1, h2, h3, h4⟩ := hx
      cases A with
      | none =>
        refine (clone_none c w).mono ?_
        rintro e w' ⟨rfl, rfl⟩
        exact ⟨_, env, rfl, EnvEq.refl _ _, ⟨hN, none, 0, rfl, Nat.le_refl _, by decide, fun _ => rfl, fun h => absurd h (by decide)⟩, by simpa using G, Below.refl _ _⟩
      | some a =>
        refine (clone_zero a c w).mono ?_
        rintro e w' ⟨A, rfl, hb⟩
        exact ⟨_, env, rfl, EnvEq.refl _ _, ⟨hN, A, 0, rfl, Nat.le_refl _, by decide, fun _ => rfl, fun h => absurd h (by decide)⟩, by simpa using G.below hb (Nat.le_refl _), hb⟩
  · exact hg.elim
theorem cloneB_sound : Sound Try.prog cod 34 s_cloneB := Sound.len clone0_sound clone_sound

noncomputable def L_cloneB : Sums cod := (34, .p s_cloneB) :: L_clone
noncomputable def C_cloneB : Cfg cod := mkC L_cloneB

theorem L_cloneB_ok : Snd Try.prog cod L_cloneB := .cons cloneB_sound L_clone_ok



def cuts_rcut : Cuts := []

theorem rcut_t0 (n : Int) (lo : Int) (hi : Int) : symF (mkW L_cloneB) cuts_rcut Try.f29.results.toList 0 400 [.code (codeOf Try.f29)] ⟨argsS Try.f29 [.c (.int .i64 n), .c (.int .i64 lo), .c (.int .i64 hi)], ([] : Heap cod)⟩ =
.need (IntKind.wrap IntKind.i64 (IntKind.wrap IntKind.i64 (hi - lo) + 1) ≠ 0) (
 cond (decide (Int.tmod n (IntKind.wrap IntKind.i64 (IntKind.wrap IntKind.i64 (hi - lo) + 1)) < 0)) (
 .ret (.fin (.c (.int .i64 (IntKind.wrap IntKind.i64   (lo +     IntKind.wrap IntKind.i64       (Int.tmod n (IntKind.wrap IntKind.i64 (IntKind.wrap IntKind.i64 (hi - lo) + 1)) +         IntKind.wrap IntKind.i64 (IntKind.wrap IntKind.i64 (hi - lo) + 1)))))) [])) (
 .ret (.fin (.c (.int .i64 (IntKind.wrap IntKind.i64 (lo + Int.tmod n (IntKind.wrap IntKind.i64 (IntKind.wrap IntKind.i64 (hi - lo) + 1)))))) []))) := by kernel_rfl



theorem rcut_run (n : Int) (lo : Int) (hi : Int) (b0 : Base) (hb : b0.n = 0) (h0 : 0 ≤ lo) (h1 : lo ≤ hi) (h2 : hi ≤ 100000) (h3 : i64ok n) : Sym.Runs Try.prog b0 [.code (codeOf Try.f29)] ⟨argsS Try.f29 [.c (.int .i64 n), .c (.int .i64 lo), .c (.int .i64 hi)], ([] : Heap cod)⟩ (Sym.Ends Try.prog Try.f29 0 (.c (.int .i64 (F.rcut n lo hi))) []) := by
  refine Runs.go (cfg := (mkW L_cloneB)) L_cloneB_ok mixed cuts_rcut 400 hb (rcut_t0 n lo hi) ?_
  unfold i64ok at h3
  have w1 : IntKind.wrap .i64 (hi - lo) = hi - lo := wrap_ok (by unfold i64ok; omega)
  have w2 : IntKind.wrap .i64 (hi - lo + 1) = hi - lo + 1 := wrap_ok (by unfold i64ok; omega)
  simp only [T.wp, T.wp_cond, Aft, Int.ofNat_eq_natCast, decide_eq_true_eq, and_true, true_and, Nat.zero_add, Bool.not_eq_true', decide_eq_false_iff_not, w1, w2]
  unfold F.rcut
  have hm : 0 < hi - lo + 1 := by omega
  have hm2 : hi - lo + 1 ≤ 100001 := by omega
  generalize hi - lo + 1 = m at *
  have e := Int.tmod_eq_emod (a := n) (b := m)
  have b1 := Int.emod_nonneg n (show m ≠ 0 by omega)
  have b2 := Int.emod_lt_of_pos n hm
  have hd : m ∣ n → n % m = 0 := Int.emod_eq_zero_of_dvd
  refine ⟨by omega, ?_⟩
  by_cases c : 0 ≤ n ∨ m ∣ n
  · rw [if_pos c] at e
    have e' : n.tmod m = n % m := by simpa using e
    rw [e', if_neg (by omega), wrap_ok (by unfold i64ok; omega)]
  · rw [if_neg c] at e
    have e' : n.tmod m = n % m - m := by rw [e]; omega
    have : n.tmod m < 0 := by omega
    rw [if_pos this, e', wrap_ok (n := n % m - m + m) (by unfold i64ok; omega), wrap_ok (by unfold i64ok; omega)]
    congr 3
    omega



noncomputable def s_rcut : Summ cod := fun args H => match args, H with
  | [.c (.int .i64 n), .c (.int .i64 lo), .c (.int .i64 hi)], [] => .need ((0 ≤ lo) ∧ (lo ≤ hi) ∧ (hi ≤ 100000) ∧ (i64ok n)) (.ret (.c (.int .i64 (F.rcut n lo hi)), []))
  | _, _ => .fail


theorem rcut_sound : Sound Try.prog cod 29 s_rcut := sound_runs (cfg := C_cloneB) L_cloneB_ok mixed Try.func29 rfl rfl _ fun args H r news hg b0 hb => by
  unfold s_rcut at hg
  split at hg
  · skip
    simp only [T.gives, T.wp, Prod.mk.injEq] at hg
    obtain ⟨⟨q0, q1, q2, q3⟩, rfl, rfl⟩ := hg
    exact rcut_run _ _ _ b0 hb (by assumption) (by assumption) (by assumption) (by assumption)
  · exact hg.elim

noncomputable def L_rcut : Sums cod := (29, .p s_rcut) :: L_cloneB
noncomputable def C_rcut : Cfg cod := mkC L_rcut

theorem L_rcut_ok : Snd Try.prog cod L_rcut := .cons rcut_sound L_cloneB_ok



def cuts_lerr : Cuts := [(4, [8, 9, 10], 1)]

theorem lerr_t0 (l : List (Int × Int × Int × Int)) (l_t : Bool) : symF C_rcut cuts_lerr Try.f35.results.toList 1 400 [.code (codeOf Try.f35)] ⟨argsS Try.f35 [.c (.slc 0 0 (List.length l) l_t)], ([.inp 4 l] : Heap cod)⟩ =
 cond (decide (32 < Int.ofNat (List.length l))) (
 .ret (.fin (.c (.int .i64 2)) [])) (
 .ret (.cut (cutAt Try.f35 4) ⟨tmG 26 [(8, .c (.slc 0 0 (List.length l) l_t)), (0, .c (.int .i64 (Int.ofNat (List.length l)))), (0, .c (.int .i64 0))], [.inp 4 l]⟩)) := by kernel_rfl


noncomputable def st_lerr_4 (l : List (Int × Int × Int × Int)) (l_t : Bool) (i : Int) : St cod := ⟨tmG 26 [(8, .c (.slc 0 0 (List.length l) l_t)), (0, .c (.int .i64 (Int.ofNat (List.length l)))), (0, .c (.int .i64 i))], [.inp 4 l]⟩


theorem lerr_t4 (l : List (Int × Int × Int × Int)) (l_t : Bool) (i : Int) : symF C_rcut cuts_lerr Try.f35.results.toList 1 400 (cutAt Try.f35 4) (st_lerr_4 l l_t i) =
 cond (decide (i < Int.ofNat (List.length l))) (
 .need (((0 : Int) ≤ i ∧ i < Int.ofNat (List.length l))) (
 .need (0 + Int.toNat i < List.length l) (
 cond (!F.inb (List.getD l (0 + Int.toNat i) (cod 4).d).1 (-1000) 1000) (
  .ret (.fin (.c (.int .i64 4)) [])) (
  cond (!F.inb (List.getD l (0 + Int.toNat i) (cod 4).d).2.1 (-1000) 1000) (
   .ret (.fin (.c (.int .i64 4)) [])) (
   cond (!F.inb (List.getD l (0 + Int.toNat i) (cod 4).d).2.2.1 1 40) (
    .ret (.fin (.c (.int .i64 4)) [])) (
    cond (!F.inb (List.getD l (0 + Int.toNat i) (cod 4).d).2.2.2 1 40) (
     .ret (.fin (.c (.int .i64 4)) [])) (
     .need (Sym.i64ok (i + 1)) (
     .ret (.cut (cutAt Try.f35 4) ⟨tmG 26 [(8, .c (.slc 0 0 (List.length l) l_t)), (0, .c (.int .i64 (Int.ofNat (List.length l)))), (0, .c (.int .i64 (i + 1)))], [.inp 4 l]⟩))))))))) (
 .ret (.fin (.c (.int .i64 0)) [])) := by kernel_rfl



theorem lerr_loop (l : List F.Q4) (l_t : Bool) (h2 : l.length ≤ 32) (b0 : Base) (hb0 : b0.n = 1) (R : SV) : ∀ (m j : Nat), j + m = l.length → R = .c (.int .i64 (F.lck l m j)) →
    Sym.Runs Try.prog b0 (cutAt Try.f35 4) (st_lerr_4 l l_t (j : Int)) (Sym.Ends Try.prog Try.f35 1 R []) := by
  intro m
  induction m with
  | zero =>
    intro j hm hR
    refine Runs.go (cfg := C_rcut) L_rcut_ok mixed cuts_lerr 400 hb0 (lerr_t4 l l_t (j : Int)) ?_
    have k1 : ¬ (j : Int) < (l.length : Int) := by omega
    simp only [T.wp, T.wp_cond, Aft, Int.ofNat_eq_natCast, decide_eq_true_eq, and_true, true_and, Nat.zero_add, Bool.not_eq_true', decide_eq_false_iff_not, k1, if_false, hR]
    rfl
  | succ m ih =>
    intro j hm hR
    have k1 : (j : Int) < (l.length : Int) := by omega
    have k2 : j < l.length := by omega
    have k4 : i64ok ((j : Int) + 1) := by unfold i64ok; omega
    have k0 : (0 : Int) ≤ (j : Int) := by omega
    have hd : (cod 4).d = F.q0 := rfl
    have nx := ih (j + 1) (by omega)
    refine Runs.go (cfg := C_rcut) L_rcut_ok mixed cuts_lerr 400 hb0 (lerr_t4 l l_t (j : Int)) ?_
    simp only [T.wp, T.wp_cond, Aft, Int.ofNat_eq_natCast, decide_eq_true_eq, and_true, true_and, Nat.zero_add, Bool.not_eq_true', decide_eq_false_iff_not, Int.toNat_natCast, k0, k1, k2, k4, hd, if_true]
    simp only [F.lck, F.lin] at hR
    generalize l.getD j F.q0 = x at *
    simp only [← F.inb.eq_1] at hR
    cases c1 : F.inb x.1 (-1000) 1000
    · simp only [c1, Bool.false_and, Bool.false_eq_true, if_false] at hR
      simp [hR]
    cases c2 : F.inb x.2.1 (-1000) 1000
    · simp only [c1, c2, Bool.false_and, Bool.and_false, Bool.false_eq_true, if_false] at hR
      simp [hR]
    cases c3 : F.inb x.2.2.1 1 40
    · simp only [c1, c2, c3, Bool.false_and, Bool.and_false, Bool.false_eq_true, if_false] at hR
      simp [hR]
    cases c4 : F.inb x.2.2.2 1 40
    · simp only [c1, c2, c3, c4, Bool.false_and, Bool.and_false, Bool.false_eq_true, if_false] at hR
      simp [hR]
    simp only [c1, c2, c3, c4, Bool.and_self, if_true] at hR
    simp only [Bool.true_eq_false, if_false]
    exact nx hR
theorem lerr_run (l : List (Int × Int × Int × Int)) (l_t : Bool) (b0 : Base) (hb : b0.n = 1)  : Sym.Runs Try.prog b0 [.code (codeOf Try.f35)] ⟨argsS Try.f35 [.c (.slc 0 0 (List.length l) l_t)], ([.inp 4 l] : Heap cod)⟩ (Sym.Ends Try.prog Try.f35 1 (.c (.int .i64 (F.lchk l))) []) := by
  refine Runs.go (cfg := C_rcut) L_rcut_ok mixed cuts_lerr 400 hb (lerr_t0 l l_t) ?_
  by_cases c : 32 < l.length
  · have c' : (32 : Int) < (l.length : Int) := by omega
    simp only [T.wp, T.wp_cond, Aft, Int.ofNat_eq_natCast, decide_eq_true_eq, and_true, true_and, Nat.zero_add, Bool.not_eq_true', decide_eq_false_iff_not, c', if_true, F.lchk, if_pos c]
  · have c' : ¬ (32 : Int) < (l.length : Int) := by omega
    simp only [T.wp, T.wp_cond, Aft, Int.ofNat_eq_natCast, decide_eq_true_eq, and_true, true_and, Nat.zero_add, Bool.not_eq_true', decide_eq_false_iff_not, c', if_false]
    refine lerr_loop l l_t (by omega) b0 hb _ l.length 0 (by omega) ?_
    simp only [F.lchk, if_neg c]



noncomputable def s_lerr : Summ cod := fun args H => match args, H with
  | [.c (.slc 0 l_i l_n l_t)], [o0] => (match o0.asInp 4 with | some l => .need ((l_i = 0 ∧ l_n = List.length l)) (.ret (.c (.int .i64 (F.lchk l)), [])) | none => .fail)
  | _, _ => .fail


theorem lerr_sound : Sound Try.prog cod 35 s_lerr := sound_runs (cfg := C_rcut) L_rcut_ok mixed Try.func35 rfl rfl _ fun args H r news hg b0 hb => by
  unfold s_lerr at hg
  split at hg
  · skip
    split at hg
    · rename_i l hx0
      cases asInp_spec hx0
      simp only [T.gives, T.wp, Prod.mk.injEq] at hg
      obtain ⟨⟨rfl, rfl⟩, rfl, rfl⟩ := hg
      exact lerr_run _ _ b0 hb 
    · exact hg.elim
  · exact hg.elim

noncomputable def L_lerr : Sums cod := (35, .p s_lerr) :: L_rcut
noncomputable def C_lerr : Cfg cod := mkC L_lerr

theorem L_lerr_ok : Snd Try.prog cod L_lerr := .cons lerr_sound L_rcut_ok



def cuts_rbox : Cuts := []

theorem rbox_t0 (x y w h : Int) (s : Int) : symF C_lerr cuts_rbox Try.f81.results.toList 0 400 [.code (codeOf Try.f81)] ⟨argsS Try.f81 [.agg [.int .i64 x, .int .i64 y, .int .i64 w, .int .i64 h], .c (.int .i64 s)], ([] : Heap cod)⟩ =
.need (Sym.i64ok (x + 1)) (
.need (Sym.i64ok (x - w)) (
.need ((2 : Int) ≠ 0) (
.need (Sym.i64ok (Int.tdiv w 2)) (
.need (Sym.i64ok (x - Int.tdiv w 2)) (
.need (Sym.i64ok (y + 1)) (
.need (Sym.i64ok (y - h)) (
.need ((2 : Int) ≠ 0) (
.need (Sym.i64ok (Int.tdiv h 2)) (
.need (Sym.i64ok (y - Int.tdiv h 2)) (
.need (((0 : Int) ≤ s ∧ s < Int.ofNat 8)) (
.ret (.fin (.agg [.int .i64 ((List.getD     [(x + 1, y + 1), (x - w, y + 1), (x - w, y - h), (x + 1, y - h), (x + 1, y - Int.tdiv h 2),       (x - w, y - Int.tdiv h 2), (x - Int.tdiv w 2, y + 1), (x - Int.tdiv w 2, y - h)]     (Int.toNat s) (cod 1).d).1), .int .i64 ((List.getD     [(x + 1, y + 1), (x - w, y + 1), (x - w, y - h), (x + 1, y - h), (x + 1, y - Int.tdiv h 2),       (x - w, y - Int.tdiv h 2), (x - Int.tdiv w 2, y + 1), (x - Int.tdiv w 2, y - h)]     (Int.toNat s) (cod 1).d).2), .int .i64 w, .int .i64 h]) [])))))))))))) := by kernel_rfl



theorem rbox_run (x y w h : Int) (s : Int) (b0 : Base) (hb : b0.n = 0) (h0 : F.lab x y w h s) : Sym.Runs Try.prog b0 [.code (codeOf Try.f81)] ⟨argsS Try.f81 [.agg [.int .i64 x, .int .i64 y, .int .i64 w, .int .i64 h], .c (.int .i64 s)], ([] : Heap cod)⟩ (Sym.Ends Try.prog Try.f81 0 (.agg [.int .i64 (F.bX x y w h s), .int .i64 (F.bY x y w h s), .int .i64 w, .int .i64 h]) []) := by
  refine Runs.go (cfg := C_lerr) L_lerr_ok mixed cuts_rbox 400 hb (rbox_t0 x y w h s) ?_
  obtain ⟨h1, h2, h3, h4, h5, h6⟩ := h0
  have k1 := tdiv2 h3
  have k2 := tdiv2 h4
  have u : ∀ n : Int, -10000 ≤ n → n ≤ 10000 → i64ok n := fun n _ _ => by unfold i64ok; omega
  simp only [T.wp, Aft]
  refine ⟨u _ (by omega) (by omega), u _ (by omega) (by omega), by decide, u _ (by omega) (by omega), u _ (by omega) (by omega), u _ (by omega) (by omega), u _ (by omega) (by omega), by decide, u _ (by omega) (by omega), u _ (by omega) (by omega), ⟨h5, by simp only [Int.ofNat_eq_natCast]; omega⟩, ?_⟩
  have hs : s = 0 ∨ s = 1 ∨ s = 2 ∨ s = 3 ∨ s = 4 ∨ s = 5 ∨ s = 6 ∨ s = 7 := by omega
  unfold F.bX F.bY
  rcases hs with rfl | rfl | rfl | rfl | rfl | rfl | rfl | rfl <;> simp <;> exact ⟨rfl, rfl⟩



noncomputable def s_rbox : Summ cod := fun args H => match args, H with
  | [.agg [.int .i64 x, .int .i64 y, .int .i64 w, .int .i64 h], .c (.int .i64 s)], [] => .need ((F.lab x y w h s)) (.ret (.agg [.int .i64 (F.bX x y w h s), .int .i64 (F.bY x y w h s), .int .i64 w, .int .i64 h], []))
  | _, _ => .fail


theorem rbox_sound : Sound Try.prog cod 81 s_rbox := sound_runs (cfg := C_lerr) L_lerr_ok mixed Try.func81 rfl rfl _ fun args H r news hg b0 hb => by
  unfold s_rbox at hg
  split at hg
  · skip
    simp only [T.gives, T.wp, Prod.mk.injEq] at hg
    obtain ⟨q0, rfl, rfl⟩ := hg
    exact rbox_run _ _ _ _ _ b0 hb (by assumption)
  · exact hg.elim

noncomputable def L_rbox : Sums cod := (81, .p s_rbox) :: L_lerr
noncomputable def C_rbox : Cfg cod := mkC L_rbox

theorem L_rbox_ok : Snd Try.prog cod L_rbox := .cons rbox_sound L_lerr_ok



def cuts_rin : Cuts := []

theorem rin_t0 (x y w h : Int) (a : Int) (b : Int) : symF C_rbox cuts_rin Try.f82.results.toList 0 400 [.code (codeOf Try.f82)] ⟨argsS Try.f82 [.agg [.int .i64 x, .int .i64 y, .int .i64 w, .int .i64 h], .c (.int .i64 a), .c (.int .i64 b)], ([] : Heap cod)⟩ =
 cond (decide (x ≤ a)) (
 .need (Sym.i64ok (x + w)) (
 cond (decide (a < x + w)) (
  cond (decide (y ≤ b)) (
   .need (Sym.i64ok (y + h)) (
   .ret (.fin (.c (.bool (decide (b < y + h)))) []))) (
   .ret (.fin (.c (.bool false)) []))) (
  .ret (.fin (.c (.bool false)) [])))) (
 .ret (.fin (.c (.bool false)) [])) := by kernel_rfl



theorem rin_run (x y w h : Int) (a : Int) (b : Int) (b0 : Base) (hb : b0.n = 0) (h0 : F.bq (x, y, w, h)) : Sym.Runs Try.prog b0 [.code (codeOf Try.f82)] ⟨argsS Try.f82 [.agg [.int .i64 x, .int .i64 y, .int .i64 w, .int .i64 h], .c (.int .i64 a), .c (.int .i64 b)], ([] : Heap cod)⟩ (Sym.Ends Try.prog Try.f82 0 (.c (.bool (F.meet (x, y, w, h) (a, b, 1, 1)))) []) := by
  refine Runs.go (cfg := C_rbox) L_rbox_ok mixed cuts_rin 400 hb (rin_t0 x y w h a b) ?_
  obtain ⟨g1, g2, g3, g4⟩ := h0
  unfold F.b4 at g1 g2 g3 g4
  simp only at g1 g2 g3 g4
  have u1 : i64ok (x + w) := by unfold i64ok; omega
  have u2 : i64ok (y + h) := by unfold i64ok; omega
  unfold F.meet
  simp only [T.wp, T.wp_cond, Aft, Int.ofNat_eq_natCast, decide_eq_true_eq, and_true, true_and, Nat.zero_add, Bool.not_eq_true', decide_eq_false_iff_not, u1, u2]
  by_cases c1 : x ≤ a <;> by_cases c2 : a < x + w <;> by_cases c3 : y ≤ b <;> by_cases c4 : b < y + h <;> simp [c1, c2, c3, c4] <;> omega



noncomputable def s_rin : Summ cod := fun args H => match args, H with
  | [.agg [.int .i64 x, .int .i64 y, .int .i64 w, .int .i64 h], .c (.int .i64 a), .c (.int .i64 b)], [] => .need ((F.bq (x, y, w, h))) (.ret (.c (.bool (F.meet (x, y, w, h) (a, b, 1, 1))), []))
  | _, _ => .fail


theorem rin_sound : Sound Try.prog cod 82 s_rin := sound_runs (cfg := C_rbox) L_rbox_ok mixed Try.func82 rfl rfl _ fun args H r news hg b0 hb => by
  unfold s_rin at hg
  split at hg
  · skip
    simp only [T.gives, T.wp, Prod.mk.injEq] at hg
    obtain ⟨q0, rfl, rfl⟩ := hg
    exact rin_run _ _ _ _ _ _ b0 hb (by assumption)
  · exact hg.elim

noncomputable def L_rin : Sums cod := (82, .p s_rin) :: L_rbox
noncomputable def C_rin : Cfg cod := mkC L_rin

theorem L_rin_ok : Snd Try.prog cod L_rin := .cons rin_sound L_rbox_ok



def cuts_same : Cuts := [(4, [1, 0, 12, 13], 2)]

theorem same_t0 (a : List Int) (a_t : Bool) (b : List Int) (b_t : Bool) : symF C_rin cuts_same Try.f27.results.toList 2 400 [.code (codeOf Try.f27)] ⟨argsS Try.f27 [.c (.slc 0 0 (List.length a) a_t), .c (.slc 1 0 (List.length b) b_t)], ([.inp 0 a, .inp 0 b] : Heap cod)⟩ =
 cond (!decide (Int.ofNat (List.length a) = Int.ofNat (List.length b))) (
 .ret (.fin (.c (.bool false)) [])) (
 .ret (.cut (cutAt Try.f27 4) ⟨tmG 12 [(0, .c (.slc 0 0 (List.length a) a_t)), (0, .c (.slc 1 0 (List.length b) b_t)), (10, .c (.int .i64 (Int.ofNat (List.length a)))), (0, .c (.int .i64 0))], [.inp 0 a, .inp 0 b]⟩)) := by kernel_rfl


noncomputable def st_same_4 (a : List Int) (a_t : Bool) (b : List Int) (b_t : Bool) (i : Int) : St cod := ⟨tmG 12 [(0, .c (.slc 0 0 (List.length a) a_t)), (0, .c (.slc 1 0 (List.length b) b_t)), (10, .c (.int .i64 (Int.ofNat (List.length a)))), (0, .c (.int .i64 i))], [.inp 0 a, .inp 0 b]⟩


theorem same_t4 (a : List Int) (a_t : Bool) (b : List Int) (b_t : Bool) (i : Int) : symF C_rin cuts_same Try.f27.results.toList 2 400 (cutAt Try.f27 4) (st_same_4 a a_t b b_t i) =
 cond (decide (i < Int.ofNat (List.length a))) (
 .need (((0 : Int) ≤ i ∧ i < Int.ofNat (List.length a))) (
 .need (0 + Int.toNat i < List.length a) (
 .need (((0 : Int) ≤ i ∧ i < Int.ofNat (List.length b))) (
 .need (0 + Int.toNat i < List.length b) (
 cond (!decide (List.getD a (0 + Int.toNat i) (cod 0).d = List.getD b (0 + Int.toNat i) (cod 0).d)) (
  .ret (.fin (.c (.bool false)) [])) (
  .need (Sym.i64ok (i + 1)) (
  .ret (.cut (cutAt Try.f27 4) ⟨tmG 12 [(0, .c (.slc 0 0 (List.length a) a_t)), (0, .c (.slc 1 0 (List.length b) b_t)), (10, .c (.int .i64 (Int.ofNat (List.length a)))), (0, .c (.int .i64 (i + 1)))], [.inp 0 a, .inp 0 b]⟩)))))))) (
 .ret (.fin (.c (.bool true)) [])) := by kernel_rfl



theorem same_loop (a : List Int) (a_t : Bool) (b : List Int) (b_t : Bool) (hl : a.length = b.length) (b0 : Base) (hb : b0.n = 2) (u : Bool) (hm : (a.length : Int) ≤ 1000000) : ∀ (m k : Nat), k + m = a.length → u = decide (a.drop k = b.drop k) →
    Sym.Runs Try.prog b0 (cutAt Try.f27 4) (st_same_4 a a_t b b_t k) (Sym.Ends Try.prog Try.f27 2 (.c (.bool u)) []) := by
  have hd0 : (cod 0).d = (0 : Int) := rfl
  intro m
  induction m with
  | zero =>
    intro k hk hu
    refine Runs.go (cfg := C_rin) L_rin_ok mixed cuts_same 400 hb (same_t4 a a_t b b_t k) ?_
    rw [List.drop_of_length_le (by omega), List.drop_of_length_le (by omega)] at hu
    have h1 : ¬ (k : Int) < a.length := by omega
    simp only [T.wp, T.wp_cond, Aft, Int.ofNat_eq_natCast, decide_eq_true_eq, and_true, true_and, Nat.zero_add, Bool.not_eq_true', decide_eq_false_iff_not, h1, if_false, hu, decide_true]
  | succ m ih =>
    intro k hk hu
    refine Runs.go (cfg := C_rin) L_rin_ok mixed cuts_same 400 hb (same_t4 a a_t b b_t k) ?_
    have h1 : (k : Int) < a.length := by omega
    have e1 : a.drop k = a.getD k 0 :: a.drop (k + 1) := by rw [List.drop_eq_getElem_cons (by omega)]; simp [List.getD, show k < a.length by omega]
    have e2 : b.drop k = b.getD k 0 :: b.drop (k + 1) := by rw [List.drop_eq_getElem_cons (by omega)]; simp [List.getD, show k < b.length by omega]
    rw [e1, e2] at hu
    have nx := ih (k + 1) (by omega)
    simp only [T.wp, T.wp_cond, Aft, Int.ofNat_eq_natCast, decide_eq_true_eq, and_true, true_and, Nat.zero_add, Bool.not_eq_true', decide_eq_false_iff_not, h1, if_true, hd0, Int.toNat_natCast]
    (repeat (refine ⟨(by first | omega | (unfold i64ok; omega)), ?_⟩))
    by_cases h2 : a.getD k 0 = b.getD k 0
    · simp only [h2, List.cons.injEq, true_and] at hu
      simp only [h2, not_true_eq_false, if_false]
      exact ⟨by unfold i64ok; omega, nx hu⟩
    · simp only [h2, List.cons.injEq, false_and, decide_false] at hu
      simp only [h2, not_false_eq_true, if_true, hu]
theorem same_run (a : List Int) (a_t : Bool) (b : List Int) (b_t : Bool) (b0 : Base) (hb : b0.n = 2) (h0 : ((List.length a : Int) ≤ 1000000)) : Sym.Runs Try.prog b0 [.code (codeOf Try.f27)] ⟨argsS Try.f27 [.c (.slc 0 0 (List.length a) a_t), .c (.slc 1 0 (List.length b) b_t)], ([.inp 0 a, .inp 0 b] : Heap cod)⟩ (Sym.Ends Try.prog Try.f27 2 (.c (.bool (F.eqI a b))) []) := by
  refine Runs.go (cfg := C_rin) L_rin_ok mixed cuts_same 400 hb (same_t0 a a_t b b_t) ?_
  by_cases h : a.length = b.length
  · have := same_loop a a_t b b_t h b0 hb _ h0 a.length 0 (by omega) rfl
    simp only [T.wp, T.wp_cond, Aft, Int.ofNat_eq_natCast, decide_eq_true_eq, and_true, true_and, Nat.zero_add, Bool.not_eq_true', decide_eq_false_iff_not]
    rw [if_neg (by omega)]
    exact this
  · have h1 : ¬ (a.length : Int) = b.length := by omega
    have h2 : F.eqI a b = false := by
      unfold F.eqI
      exact decide_eq_false fun e => h (by rw [e])
    simp only [T.wp, T.wp_cond, Aft, Int.ofNat_eq_natCast, decide_eq_true_eq, and_true, true_and, Nat.zero_add, Bool.not_eq_true', decide_eq_false_iff_not, h1, not_false_eq_true, if_true, h2]



noncomputable def s_same : Summ cod := fun args H => match args, H with
  | [.c (.slc 0 a_i a_n a_t), .c (.slc 1 b_i b_n b_t)], [o0, o1] => (match o0.asInp 0 with | some a => (match o1.asInp 0 with | some b => .need ((a_i = 0 ∧ a_n = List.length a) ∧ (b_i = 0 ∧ b_n = List.length b) ∧ (((List.length a : Int) ≤ 1000000))) (.ret (.c (.bool (F.eqI a b)), [])) | none => .fail) | none => .fail)
  | _, _ => .fail


theorem same_sound : Sound Try.prog cod 27 s_same := sound_runs (cfg := C_rin) L_rin_ok mixed Try.func27 rfl rfl _ fun args H r news hg b0 hb => by
  unfold s_same at hg
  split at hg
  · skip
    split at hg
    · rename_i a hx0
      cases asInp_spec hx0
      split at hg
      · rename_i b hx1
        cases asInp_spec hx1
        simp only [T.gives, T.wp, Prod.mk.injEq] at hg
        obtain ⟨⟨⟨rfl, rfl⟩, ⟨rfl, rfl⟩, q2⟩, rfl, rfl⟩ := hg
        exact same_run _ _ _ _ b0 hb (by assumption)
      · exact hg.elim
    · exact hg.elim
  · exact hg.elim

noncomputable def L_same : Sums cod := (27, .p s_same) :: L_rin
noncomputable def C_same : Cfg cod := mkC L_same

theorem L_same_ok : Snd Try.prog cod L_same := .cons same_sound L_rin_ok



def cuts_equal : Cuts := [(4, [1, 0, 12, 13], 2)]

theorem equal_t0 (a : List Int) (a_t : Bool) (b : List Int) (b_t : Bool) : symF C_same cuts_equal Try.f31.results.toList 2 400 [.code (codeOf Try.f31)] ⟨argsS Try.f31 [.c (.slc 0 0 (List.length a) a_t), .c (.slc 1 0 (List.length b) b_t)], ([.inp 0 a, .inp 0 b] : Heap cod)⟩ =
 cond (!decide (Int.ofNat (List.length a) = Int.ofNat (List.length b))) (
 .ret (.fin (.c (.bool false)) [])) (
 .ret (.cut (cutAt Try.f31 4) ⟨tmG 12 [(0, .c (.slc 0 0 (List.length a) a_t)), (0, .c (.slc 1 0 (List.length b) b_t)), (10, .c (.int .i64 (Int.ofNat (List.length a)))), (0, .c (.int .i64 0))], [.inp 0 a, .inp 0 b]⟩)) := by kernel_rfl


noncomputable def st_equal_4 (a : List Int) (a_t : Bool) (b : List Int) (b_t : Bool) (i : Int) : St cod := ⟨tmG 12 [(0, .c (.slc 0 0 (List.length a) a_t)), (0, .c (.slc 1 0 (List.length b) b_t)), (10, .c (.int .i64 (Int.ofNat (List.length a)))), (0, .c (.int .i64 i))], [.inp 0 a, .inp 0 b]⟩


theorem equal_t4 (a : List Int) (a_t : Bool) (b : List Int) (b_t : Bool) (i : Int) : symF C_same cuts_equal Try.f31.results.toList 2 400 (cutAt Try.f31 4) (st_equal_4 a a_t b b_t i) =
 cond (decide (i < Int.ofNat (List.length a))) (
 .need (((0 : Int) ≤ i ∧ i < Int.ofNat (List.length a))) (
 .need (0 + Int.toNat i < List.length a) (
 .need (((0 : Int) ≤ i ∧ i < Int.ofNat (List.length b))) (
 .need (0 + Int.toNat i < List.length b) (
 cond (!decide (List.getD a (0 + Int.toNat i) (cod 0).d = List.getD b (0 + Int.toNat i) (cod 0).d)) (
  .ret (.fin (.c (.bool false)) [])) (
  .need (Sym.i64ok (i + 1)) (
  .ret (.cut (cutAt Try.f31 4) ⟨tmG 12 [(0, .c (.slc 0 0 (List.length a) a_t)), (0, .c (.slc 1 0 (List.length b) b_t)), (10, .c (.int .i64 (Int.ofNat (List.length a)))), (0, .c (.int .i64 (i + 1)))], [.inp 0 a, .inp 0 b]⟩)))))))) (
 .ret (.fin (.c (.bool true)) [])) := by kernel_rfl



theorem equal_loop (a : List Int) (a_t : Bool) (b : List Int) (b_t : Bool) (hl : a.length = b.length) (b0 : Base) (hb : b0.n = 2) (u : Bool) (hm : (a.length : Int) ≤ 1000000) : ∀ (m k : Nat), k + m = a.length → u = decide (a.drop k = b.drop k) →
    Sym.Runs Try.prog b0 (cutAt Try.f31 4) (st_equal_4 a a_t b b_t k) (Sym.Ends Try.prog Try.f31 2 (.c (.bool u)) []) := by
  have hd0 : (cod 0).d = (0 : Int) := rfl
  intro m
  induction m with
  | zero =>
    intro k hk hu
    refine Runs.go (cfg := C_same) L_same_ok mixed cuts_equal 400 hb (equal_t4 a a_t b b_t k) ?_
    rw [List.drop_of_length_le (by omega), List.drop_of_length_le (by omega)] at hu
    have h1 : ¬ (k : Int) < a.length := by omega
    simp only [T.wp, T.wp_cond, Aft, Int.ofNat_eq_natCast, decide_eq_true_eq, and_true, true_and, Nat.zero_add, Bool.not_eq_true', decide_eq_false_iff_not, h1, if_false, hu, decide_true]
  | succ m ih =>
    intro k hk hu
    refine Runs.go (cfg := C_same) L_same_ok mixed cuts_equal 400 hb (equal_t4 a a_t b b_t k) ?_
    have h1 : (k : Int) < a.length := by omega
    have e1 : a.drop k = a.getD k 0 :: a.drop (k + 1) := by rw [List.drop_eq_getElem_cons (by omega)]; simp [List.getD, show k < a.length by omega]
    have e2 : b.drop k = b.getD k 0 :: b.drop (k + 1) := by rw [List.drop_eq_getElem_cons (by omega)]; simp [List.getD, show k < b.length by omega]
    rw [e1, e2] at hu
    have nx := ih (k + 1) (by omega)
    simp only [T.wp, T.wp_cond, Aft, Int.ofNat_eq_natCast, decide_eq_true_eq, and_true, true_and, Nat.zero_add, Bool.not_eq_true', decide_eq_false_iff_not, h1, if_true, hd0, Int.toNat_natCast]
    (repeat (refine ⟨(by first | omega | (unfold i64ok; omega)), ?_⟩))
    by_cases h2 : a.getD k 0 = b.getD k 0
    · simp only [h2, List.cons.injEq, true_and] at hu
      simp only [h2, not_true_eq_false, if_false]
      exact ⟨by unfold i64ok; omega, nx hu⟩
    · simp only [h2, List.cons.injEq, false_and, decide_false] at hu
      simp only [h2, not_false_eq_true, if_true, hu]
theorem equal_run (a : List Int) (a_t : Bool) (b : List Int) (b_t : Bool) (b0 : Base) (hb : b0.n = 2) (h0 : ((List.length a : Int) ≤ 1000000)) : Sym.Runs Try.prog b0 [.code (codeOf Try.f31)] ⟨argsS Try.f31 [.c (.slc 0 0 (List.length a) a_t), .c (.slc 1 0 (List.length b) b_t)], ([.inp 0 a, .inp 0 b] : Heap cod)⟩ (Sym.Ends Try.prog Try.f31 2 (.c (.bool (F.eqI a b))) []) := by
  refine Runs.go (cfg := C_same) L_same_ok mixed cuts_equal 400 hb (equal_t0 a a_t b b_t) ?_
  by_cases h : a.length = b.length
  · have := equal_loop a a_t b b_t h b0 hb _ h0 a.length 0 (by omega) rfl
    simp only [T.wp, T.wp_cond, Aft, Int.ofNat_eq_natCast, decide_eq_true_eq, and_true, true_and, Nat.zero_add, Bool.not_eq_true', decide_eq_false_iff_not]
    rw [if_neg (by omega)]
    exact this
  · have h1 : ¬ (a.length : Int) = b.length := by omega
    have h2 : F.eqI a b = false := by
      unfold F.eqI
      exact decide_eq_false fun e => h (by rw [e])
    simp only [T.wp, T.wp_cond, Aft, Int.ofNat_eq_natCast, decide_eq_true_eq, and_true, true_and, Nat.zero_add, Bool.not_eq_true', decide_eq_false_iff_not, h1, not_false_eq_true, if_true, h2]



noncomputable def s_equal : Summ cod := fun args H => match args, H with
  | [.c (.slc 0 a_i a_n a_t), .c (.slc 1 b_i b_n b_t)], [o0, o1] => (match o0.asInp 0 with | some a => (match o1.asInp 0 with | some b => .need ((a_i = 0 ∧ a_n = List.length a) ∧ (b_i = 0 ∧ b_n = List.length b) ∧ (((List.length a : Int) ≤ 1000000))) (.ret (.c (.bool (F.eqI a b)), [])) | none => .fail) | none => .fail)
  | _, _ => .fail


theorem equal_sound : Sound Try.prog cod 31 s_equal := sound_runs (cfg := C_same) L_same_ok mixed Try.func31 rfl rfl _ fun args H r news hg b0 hb => by
  unfold s_equal at hg
  split at hg
  · skip
    split at hg
    · rename_i a hx0
      cases asInp_spec hx0
      split at hg
      · rename_i b hx1
        cases asInp_spec hx1
        simp only [T.gives, T.wp, Prod.mk.injEq] at hg
        obtain ⟨⟨⟨rfl, rfl⟩, ⟨rfl, rfl⟩, q2⟩, rfl, rfl⟩ := hg
        exact equal_run _ _ _ _ b0 hb (by assumption)
      · exact hg.elim
    · exact hg.elim
  · exact hg.elim

noncomputable def L_equal : Sums cod := (31, .p s_equal) :: L_same
noncomputable def C_equal : Cfg cod := mkC L_equal

theorem L_equal_ok : Snd Try.prog cod L_equal := .cons equal_sound L_same_ok


end
end Go.Proofs.Ytffcfbamcaoidaa
