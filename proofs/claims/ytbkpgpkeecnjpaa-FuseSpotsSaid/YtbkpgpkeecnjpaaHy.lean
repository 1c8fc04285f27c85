/- Part of a claim: lemmas on the way to its theorem; each states its own conditions. -/
import Derived.Test.YtbkpgpkeecnjpaaHx
import Derived.Test.YtbkpgpkeecnjpaaHe
import Derived.Test.YtbkpgpkeecnjpaaSym24
namespace Go.Proofs.Ytbkpgpkeecnjpaa
open Sym Go.RowKit
noncomputable section
set_option maxRecDepth 100000
set_option maxHeartbeats 4000000



def cuts_clone : Cuts := []

theorem clone_t0 (l : List (Int × Int × Int × Int × Int × Int)) (l_t : Bool) (l_i l_n : Nat) : symF C_cmpS cuts_clone Try.f65.results.toList 1 400 [.code (codeOf Try.f65)] ⟨argsS Try.f65 [.c (.slc 0 l_i l_n l_t)], ([.inp 2 l] : Heap cod)⟩ =
.need ((0 : Nat) < l_n) (
.need (List.length (List.take l_n (List.drop l_i l)) = l_n) (
.need (0 = 0) (
.need (((0 : Nat) < List.length (List.take l_n (List.drop l_i l)) ∧ 0 + List.length (List.take l_n (List.drop l_i l)) ≤ 1000000)) (
.ret (.fin (.c (.own 1 (0 + List.length (List.take l_n (List.drop l_i l))))) [.own 2 ([] ++ (List.take l_n (List.drop l_i l))) 81]))))) := by kernel_rfl



theorem clone_run (l : List (Int × Int × Int × Int × Int × Int)) (l_t : Bool) (l_i l_n : Nat) (b0 : Base) (hb : b0.n = 1) (h0 : l_i + l_n ≤ List.length l) (h1 : 0 < l_n) (h2 : l_n ≤ 1000000) : Sym.Runs Try.prog b0 [.code (codeOf Try.f65)] ⟨argsS Try.f65 [.c (.slc 0 l_i l_n l_t)], ([.inp 2 l] : Heap cod)⟩ (Sym.Ends Try.prog Try.f65 1 (.c (.own 1 l_n)) [.own 2 ((l.drop l_i).take l_n) 81]) := by
  refine Runs.go (cfg := C_cmpS) L_cmpS_ok mixed cuts_clone 400 hb (clone_t0 l l_t l_i l_n) ?_
  have e : (List.take l_n (List.drop l_i l)).length = l_n := by rw [List.length_take, List.length_drop]; omega
  simp only [T.wp, T.wp_cond, Aft, Int.ofNat_eq_natCast, decide_eq_true_eq, and_true, true_and, Nat.zero_add, Bool.not_eq_true', decide_eq_false_iff_not, e, List.nil_append]
  refine ⟨h1, ⟨h1, h2⟩, ?_⟩
  simp [e]
  rfl



noncomputable def s_clone : Summ cod := fun args H => match args, H with
  | [.c (.slc 0 l_i l_n l_t)], [o0] => (match o0.asInp 2 with | some l => .need ((l_i + l_n ≤ List.length l) ∧ (0 < l_n) ∧ (l_n ≤ 1000000)) (.ret (.c (.own 1 l_n), [.own 2 ((l.drop l_i).take l_n) 81])) | none => .fail)
  | _, _ => .fail


theorem clone_sound : Sound Try.prog cod 65 s_clone := sound_runs (cfg := C_cmpS) L_cmpS_ok mixed Try.func65 rfl rfl _ fun args H r news hg b0 hb => by
  unfold s_clone at hg
  split at hg
  · skip
    split at hg
    · rename_i l hx0
      cases asInp_spec hx0
      simp only [T.gives, T.wp, Prod.mk.injEq] at hg
      obtain ⟨⟨q0, q1, q2⟩, rfl, rfl⟩ := hg
      exact clone_run _ _ _ _ b0 hb (by assumption) (by assumption) (by assumption)
    · exact hg.elim
  · exact hg.elim

noncomputable def L_clone : Sums cod := (65, .p s_clone) :: L_cmpS
noncomputable def C_clone : Cfg cod := mkC L_clone

theorem L_clone_ok : Snd Try.prog cod L_clone := .cons clone_sound L_cmpS_ok



noncomputable def s_clone0 : Summ cod := fun args _ => match args with
  | [.c (.slc h _ n _)] => .need (n = 0) (.ret (.c (.slc h 0 0 true), []))
  | _ => .fail
/-- By the number of elements: none, or some. -/
noncomputable def s_len (s1 s2 : Summ cod) : Summ cod := fun args H => match args with
  | [.c (.slc _ _ n _)] => .ite (decide (n = 0)) (s1 args H) (s2 args H)
  | _ => .fail
noncomputable def s_cloneB : Summ cod := s_len s_clone0 s_clone


theorem Sound.len2 {g : FuncId} {s1 s2 : Summ cod} (h1 : Sound Try.prog cod g s1) (h2 : Sound Try.prog cod g s2) : Sound Try.prog cod g (s_len s1 s2) := by
  refine ⟨h1.enters, fun args H env w vs r news hro G ha hg => ?_⟩
  unfold s_len at hg
  split at hg
  · rename_i x i n t
    by_cases c : n = 0
    · exact h1.calls _ H env w vs r news hro G ha (hg.1 (by simp [c]))
    · exact h2.calls _ H env w vs r news hro G ha (hg.2 (by simp [c]))
  · exact hg.elim
theorem clone0_sound : Sound Try.prog cod 65 s_clone0 := by
  refine ⟨clone_sound.enters, fun args H env w vs r news hro G ha hg => ?_⟩
  unfold s_clone0 at hg
  split at hg
  · rename_i x i n t
    obtain ⟨hn, hr⟩ := hg
    subst hn
    cases hr
    cases ha with
    | @cons _ v0 _ vs hx hxs =>
      cases hxs
      obtain ⟨hN, A, c, rfl, h1, h2, h3, h4⟩ := hx
      cases A with
      | none =>
        refine (cloneS_none c w).mono ?_
        rintro e w' ⟨rfl, rfl⟩
        exact ⟨_, env, rfl, EnvEq.refl _ _, ⟨hN, none, 0, rfl, Nat.le_refl _, by decide, fun _ => rfl, fun h => absurd h (by decide)⟩, by simpa using G, ⟨Below.refl _ _, Nat.le_refl _⟩⟩
      | some a =>
        refine (cloneS_zero a c w).mono ?_
        rintro e w' ⟨A, rfl, hb, hd⟩
        exact ⟨_, env, rfl, EnvEq.refl _ _, ⟨hN, A, 0, rfl, Nat.le_refl _, by decide, fun _ => rfl, fun h => absurd h (by decide)⟩, by simpa using G.below hb (Nat.le_refl _), ⟨hb, hd⟩⟩
  · exact hg.elim
theorem cloneB_sound : Sound Try.prog cod 65 s_cloneB := Sound.len2 clone0_sound clone_sound

noncomputable def L_cloneB : Sums cod := (65, .p s_cloneB) :: L_clone
noncomputable def C_cloneB : Cfg cod := mkC L_cloneB

theorem L_cloneB_ok : Snd Try.prog cod L_cloneB := .cons cloneB_sound L_clone_ok



namespace F
def alk (band : Int) (b a : Sp) : Bool := decide (a.1 = b.1) && (decide (a.2.2.2.2.1 = b.2.2.2.2.1) && (!decide (a.2.2.2.2.1 = -1) && ((inb (a.2.2.2.2.2 + b.2.2.2.2.2) 0 8000000 && decide (far a.2.1 a.2.2.1 b.2.1 b.2.2.1 ≤ (a.2.2.2.2.2 + b.2.2.2.2.2) * (a.2.2.2.2.2 + b.2.2.2.2.2))) && decide (max (a.2.2.2.1 - b.2.2.2.1) (b.2.2.2.1 - a.2.2.2.1) ≤ band))))
def sp1 (x : Sp) : Prop := spot x.1 x.2.1 x.2.2.1 x.2.2.2.1 x.2.2.2.2.1 x.2.2.2.2.2 = 0
def spOk (x : Sp) (band : Int) : Prop := sp1 x ∧ 0 ≤ band ∧ band ≤ 60000
def allS (l : List Sp) : Prop := ∀ x ∈ l, sp1 x
def idxQ (p : Sp → Bool) (l : List Sp) : Nat → Nat → Int → Int
  | 0, _, _ => -1
  | m + 1, j, i => if p (l.getD j sp0) then i else idxQ p l m (j + 1) (i + 1)
def anyQ (p : Sp → Bool) (l : List Sp) : Nat → Nat → Bool
  | 0, _ => false
  | m + 1, j => p (l.getD j sp0) || anyQ p l m (j + 1)
end F


theorem F.sp_bd {x : F.Sp} (h : F.sp1 x) : (0 ≤ x.1 ∧ x.1 ≤ 200000) ∧ (-1000000 ≤ x.2.1 ∧ x.2.1 ≤ 1000000) ∧ (-1000000 ≤ x.2.2.1 ∧ x.2.2.1 ≤ 1000000) ∧ (0 ≤ x.2.2.2.1 ∧ x.2.2.2.1 ≤ 60000) ∧ (-1 ≤ x.2.2.2.2.1 ∧ x.2.2.2.2.1 ≤ 4095) ∧ (0 ≤ x.2.2.2.2.2 ∧ x.2.2.2.2.2 ≤ 1000000) := by
  unfold F.sp1 F.spot F.placed F.inb at h
  split at h
  · rename_i q
    simp only [Bool.and_eq_true, decide_eq_true_eq] at q
    omega
  · cases h
theorem idxQ_any (p : F.Sp → Bool) (l : List F.Sp) : ∀ (m j : Nat) (i : Int), 0 ≤ i → decide (0 ≤ F.idxQ p l m j i) = F.anyQ p l m j
  | 0, j, i, _ => by simp [F.idxQ, F.anyQ]
  | m + 1, j, i, h0 => by
    rw [F.idxQ, F.anyQ]
    cases hp : p (l.getD j F.sp0)
    · simp only [Bool.false_eq_true, if_false, Bool.false_or]
      exact idxQ_any p l m (j + 1) (i + 1) (by omega)
    · simp [h0]


def cuts_near : Cuts := []

theorem near_t0 (a : Int) (b : Int) (band : Int) : symF C_cloneB cuts_near Try.f89.results.toList 0 400 [.code (codeOf Try.f89)] ⟨argsS Try.f89 [.c (.int .i64 a), .c (.int .i64 b), .c (.int .i64 band)], ([] : Heap cod)⟩ =
.need (Sym.i64ok (a - b)) (
.need (Sym.i64ok (b - a)) (
.ret (.fin (.c (.bool (decide (max (a - b) (b - a) ≤ band)))) []))) := by kernel_rfl



theorem near_run (a : Int) (b : Int) (band : Int) (b0 : Base) (hb : b0.n = 0) (h0 : i64ok (a - b)) (h1 : i64ok (b - a)) : Sym.Runs Try.prog b0 [.code (codeOf Try.f89)] ⟨argsS Try.f89 [.c (.int .i64 a), .c (.int .i64 b), .c (.int .i64 band)], ([] : Heap cod)⟩ (Sym.Ends Try.prog Try.f89 0 (.c (.bool (decide (max (a - b) (b - a) ≤ band)))) []) := by
  refine Runs.go (cfg := C_cloneB) L_cloneB_ok mixed cuts_near 400 hb (near_t0 a b band) ?_
  simp [T.wp, T.wp_cond, Aft, Int.ofNat_eq_natCast, decide_eq_true_eq, and_true, true_and, Nat.zero_add, Bool.not_eq_true', decide_eq_false_iff_not, h0, h1]



noncomputable def s_near : Summ cod := fun args H => match args, H with
  | [.c (.int .i64 a), .c (.int .i64 b), .c (.int .i64 band)], [] => .need ((i64ok (a - b)) ∧ (i64ok (b - a))) (.ret (.c (.bool (decide (max (a - b) (b - a) ≤ band))), []))
  | _, _ => .fail


theorem near_sound : Sound Try.prog cod 89 s_near := sound_runs (cfg := C_cloneB) L_cloneB_ok mixed Try.func89 rfl rfl _ fun args H r news hg b0 hb => by
  unfold s_near at hg
  split at hg
  · skip
    simp only [T.gives, T.wp, Prod.mk.injEq] at hg
    obtain ⟨⟨q0, q1⟩, rfl, rfl⟩ := hg
    exact near_run _ _ _ b0 hb (by assumption) (by assumption)
  · exact hg.elim

noncomputable def L_near : Sums cod := (89, .p s_near) :: L_cloneB
noncomputable def C_near : Cfg cod := mkC L_near

theorem L_near_ok : Snd Try.prog cod L_near := .cons near_sound L_cloneB_ok



def cuts_alike : Cuts := []

theorem alike_t0 (a1 a2 a3 a4 a5 a6 : Int) (b1 b2 b3 b4 b5 b6 : Int) (band : Int) : symF C_near cuts_alike Try.f69.results.toList 0 400 [.code (codeOf Try.f69)] ⟨argsS Try.f69 [.agg [.int .i64 a1, .int .i64 a2, .int .i64 a3, .int .i64 a4, .int .i64 a5, .int .i64 a6], .agg [.int .i64 b1, .int .i64 b2, .int .i64 b3, .int .i64 b4, .int .i64 b5, .int .i64 b6], .c (.int .i64 band)], ([] : Heap cod)⟩ =
 cond (decide (a1 = b1)) (
 cond (decide (a5 = b5)) (
  cond (!decide (a5 = -1)) (
   .need (Sym.i64ok (a6 + b6)) (
   .need ((F.b9 a2 ∧ (F.b9 a3 ∧ (F.b9 b2 ∧ F.b9 b3)))) (
   cond (F.inb (a6 + b6) 0 8000000 && decide (F.far a2 a3 b2 b3 ≤ (a6 + b6) * (a6 + b6))) (
    .need ((((-9223372036854775808 : Int) ≤ a4 - b4 ∧ a4 - b4 ≤ 9223372036854775807) ∧ ((-9223372036854775808 : Int) ≤ b4 - a4 ∧ b4 - a4 ≤ 9223372036854775807))) (
    .ret (.fin (.c (.bool (decide (max (a4 - b4) (b4 - a4) ≤ band)))) []))) (
    .ret (.fin (.c (.bool false)) []))))) (
   .ret (.fin (.c (.bool false)) []))) (
  .ret (.fin (.c (.bool false)) []))) (
 .ret (.fin (.c (.bool false)) [])) := by kernel_rfl



theorem alike_run (a1 a2 a3 a4 a5 a6 : Int) (b1 b2 b3 b4 b5 b6 : Int) (band : Int) (b0 : Base) (hb : b0.n = 0) (h0 : F.sp1 (a1, a2, a3, a4, a5, a6)) (h1 : F.sp1 (b1, b2, b3, b4, b5, b6)) : Sym.Runs Try.prog b0 [.code (codeOf Try.f69)] ⟨argsS Try.f69 [.agg [.int .i64 a1, .int .i64 a2, .int .i64 a3, .int .i64 a4, .int .i64 a5, .int .i64 a6], .agg [.int .i64 b1, .int .i64 b2, .int .i64 b3, .int .i64 b4, .int .i64 b5, .int .i64 b6], .c (.int .i64 band)], ([] : Heap cod)⟩ (Sym.Ends Try.prog Try.f69 0 (.c (.bool (F.alk band (b1, b2, b3, b4, b5, b6) (a1, a2, a3, a4, a5, a6)))) []) := by
  refine Runs.go (cfg := C_near) L_near_ok mixed cuts_alike 400 hb (alike_t0 a1 a2 a3 a4 a5 a6 b1 b2 b3 b4 b5 b6 band) ?_
  have ba := F.sp_bd h0
  have bb := F.sp_bd h1
  simp only at ba bb
  have w1 : i64ok (a6 + b6) := by unfold i64ok; omega
  have w2 : F.b9 a2 ∧ F.b9 a3 ∧ F.b9 b2 ∧ F.b9 b3 := by unfold F.b9; omega
  have w3 : i64ok (a4 - b4) := by unfold i64ok; omega
  have w4 : i64ok (b4 - a4) := by unfold i64ok; omega
  unfold F.alk
  simp only [T.wp, T.wp_cond, Aft]
  by_cases g1 : a1 = b1 <;> by_cases g2 : a5 = b5 <;> by_cases g3 : a5 = -1 <;> cases g4 : (F.inb (a6 + b6) 0 8000000 && decide (F.far a2 a3 b2 b3 ≤ (a6 + b6) * (a6 + b6))) <;> simp_all <;> exact ⟨w3, w4⟩



noncomputable def s_alike : Summ cod := fun args H => match args, H with
  | [.agg [.int .i64 a1, .int .i64 a2, .int .i64 a3, .int .i64 a4, .int .i64 a5, .int .i64 a6], .agg [.int .i64 b1, .int .i64 b2, .int .i64 b3, .int .i64 b4, .int .i64 b5, .int .i64 b6], .c (.int .i64 band)], [] => .need ((F.sp1 (a1, a2, a3, a4, a5, a6)) ∧ (F.sp1 (b1, b2, b3, b4, b5, b6))) (.ret (.c (.bool (F.alk band (b1, b2, b3, b4, b5, b6) (a1, a2, a3, a4, a5, a6))), []))
  | _, _ => .fail


theorem alike_sound : Sound Try.prog cod 69 s_alike := sound_runs (cfg := C_near) L_near_ok mixed Try.func69 rfl rfl _ fun args H r news hg b0 hb => by
  unfold s_alike at hg
  split at hg
  · skip
    simp only [T.gives, T.wp, Prod.mk.injEq] at hg
    obtain ⟨⟨q0, q1⟩, rfl, rfl⟩ := hg
    exact alike_run _ _ _ _ _ _ _ _ _ _ _ _ _ b0 hb (by assumption) (by assumption)
  · exact hg.elim

noncomputable def L_alike : Sums cod := (69, .p s_alike) :: L_near
noncomputable def C_alike : Cfg cod := mkC L_alike

theorem L_alike_ok : Snd Try.prog cod L_alike := .cons alike_sound L_near_ok



def cuts_sp1c : Cuts := []

theorem sp1c_t0 (x1 x2 x3 x4 x5 x6 : Int) (a b c d e f : Int) (g : Int) : symF C_alike cuts_sp1c Try.f68.results.toList 2 400 [.code (codeOf Try.f68)] ⟨argsS Try.f68 [.agg [.int .i64 x1, .int .i64 x2, .int .i64 x3, .int .i64 x4, .int .i64 x5, .int .i64 x6], .c (.ptr 0 0 0), .c (.ptr 1 0 0)], ([.rblk [.int .i64 a, .int .i64 b, .int .i64 c, .int .i64 d, .int .i64 e, .int .i64 f], .rblk [.int .i64 g]] : Heap cod)⟩ =
.need ((F.sp1 (x1, x2, x3, x4, x5, x6) ∧ F.sp1 (a, b, c, d, e, f))) (
.ret (.fin (.c (.bool (F.alk g (a, b, c, d, e, f) (x1, x2, x3, x4, x5, x6)))) [])) := by kernel_rfl



theorem sp1c_run (x1 x2 x3 x4 x5 x6 : Int) (a b c d e f : Int) (g : Int) (b0 : Base) (hb : b0.n = 2) (h0 : F.spOk (a, b, c, d, e, f) g) (h1 : F.sp1 (x1, x2, x3, x4, x5, x6)) : Sym.Runs Try.prog b0 [.code (codeOf Try.f68)] ⟨argsS Try.f68 [.agg [.int .i64 x1, .int .i64 x2, .int .i64 x3, .int .i64 x4, .int .i64 x5, .int .i64 x6], .c (.ptr 0 0 0), .c (.ptr 1 0 0)], ([.rblk [.int .i64 a, .int .i64 b, .int .i64 c, .int .i64 d, .int .i64 e, .int .i64 f], .rblk [.int .i64 g]] : Heap cod)⟩ (Sym.Ends Try.prog Try.f68 2 (.c (.bool (F.alk g (a, b, c, d, e, f) (x1, x2, x3, x4, x5, x6)))) []) := by
  refine Runs.go (cfg := C_alike) L_alike_ok mixed cuts_sp1c 400 hb (sp1c_t0 x1 x2 x3 x4 x5 x6 a b c d e f g) ?_
  simp [T.wp, T.wp_cond, Aft, Int.ofNat_eq_natCast, decide_eq_true_eq, and_true, true_and, Nat.zero_add, Bool.not_eq_true', decide_eq_false_iff_not, h0.1, h1]



noncomputable def s_sp1c : Summ cod := fun args H => match args, H with
  | [.agg [.int .i64 x1, .int .i64 x2, .int .i64 x3, .int .i64 x4, .int .i64 x5, .int .i64 x6], .c (.ptr 0 0 0), .c (.ptr 1 0 0)], [.rblk [.int .i64 a, .int .i64 b, .int .i64 c, .int .i64 d, .int .i64 e, .int .i64 f], .rblk [.int .i64 g]] => .need ((F.spOk (a, b, c, d, e, f) g) ∧ (F.sp1 (x1, x2, x3, x4, x5, x6))) (.ret (.c (.bool (F.alk g (a, b, c, d, e, f) (x1, x2, x3, x4, x5, x6))), []))
  | _, _ => .fail


theorem sp1c_sound : Sound Try.prog cod 68 s_sp1c := sound_runs (cfg := C_alike) L_alike_ok mixed Try.func68 rfl rfl _ fun args H r news hg b0 hb => by
  unfold s_sp1c at hg
  split at hg
  · skip
    simp only [T.gives, T.wp, Prod.mk.injEq] at hg
    obtain ⟨⟨q0, q1⟩, rfl, rfl⟩ := hg
    exact sp1c_run _ _ _ _ _ _ _ _ _ _ _ _ _ b0 hb (by assumption) (by assumption)
  · exact hg.elim

noncomputable def L_sp1c : Sums cod := (68, .p s_sp1c) :: L_alike
noncomputable def C_sp1c : Cfg cod := mkC L_sp1c

theorem L_sp1c_ok : Snd Try.prog cod L_sp1c := .cons sp1c_sound L_alike_ok



def cuts_ix2 : Cuts := [(2, [0, 1, 7, 8], 3)]

theorem ix2_t0 (l : List (Int × Int × Int × Int × Int × Int)) (l_t : Bool) (l_i l_n : Nat) (a b c d e f : Int) (g : Int) : symF C_sp1c cuts_ix2 Try.f88.results.toList 3 400 [.code (codeOf Try.f88)] ⟨argsS Try.f88 [.c (.slc 0 l_i l_n l_t), .c (.fn 68 [(1, 0, 0), (2, 0, 0)])], ([.inp 2 l, .rblk [.int .i64 a, .int .i64 b, .int .i64 c, .int .i64 d, .int .i64 e, .int .i64 f], .rblk [.int .i64 g]] : Heap cod)⟩ =
.ret (.cut (cutAt Try.f88 2) ⟨tmG 10 [(0, .c (.slc 0 (l_i) (l_n) l_t)), (0, .c (.fn 68 [(1, 0, 0), (2, 0, 0)])), (5, .c (.int .i64 (Int.ofNat l_n))), (0, .c (.int .i64 0))], [.inp 2 l, .rblk [.int .i64 a, .int .i64 b, .int .i64 c, .int .i64 d, .int .i64 e, .int .i64 f], .rblk [.int .i64 g]]⟩) := by kernel_rfl


noncomputable def st_ix2_2 (l : List (Int × Int × Int × Int × Int × Int)) (l_t : Bool) (l_i l_n : Nat) (a b c d e f : Int) (g : Int) (i : Int) : St cod := ⟨tmG 10 [(0, .c (.slc 0 (l_i) (l_n) l_t)), (0, .c (.fn 68 [(1, 0, 0), (2, 0, 0)])), (5, .c (.int .i64 (Int.ofNat l_n))), (0, .c (.int .i64 i))], [.inp 2 l, .rblk [.int .i64 a, .int .i64 b, .int .i64 c, .int .i64 d, .int .i64 e, .int .i64 f], .rblk [.int .i64 g]]⟩


theorem ix2_t2 (l : List (Int × Int × Int × Int × Int × Int)) (l_t : Bool) (l_i l_n : Nat) (a b c d e f : Int) (g : Int) (i : Int) : symF C_sp1c cuts_ix2 Try.f88.results.toList 3 400 (cutAt Try.f88 2) (st_ix2_2 l l_t l_i l_n a b c d e f g i) =
 cond (decide (i < Int.ofNat l_n)) (
 .need (((0 : Int) ≤ i ∧ i < Int.ofNat l_n)) (
 .need (l_i + Int.toNat i < List.length l) (
 .need ((F.spOk (a, b, c, d, e, f) g ∧ F.sp1   ((List.getD l (l_i + Int.toNat i) (cod 2).d).1, (List.getD l (l_i + Int.toNat i) (cod 2).d).2.1,     (List.getD l (l_i + Int.toNat i) (cod 2).d).2.2.1, (List.getD l (l_i + Int.toNat i) (cod 2).d).2.2.2.1,     (List.getD l (l_i + Int.toNat i) (cod 2).d).2.2.2.2.1, (List.getD l (l_i + Int.toNat i) (cod 2).d).2.2.2.2.2))) (
 cond (F.alk g (a, b, c, d, e, f)   ((List.getD l (l_i + Int.toNat i) (cod 2).d).1, (List.getD l (l_i + Int.toNat i) (cod 2).d).2.1,     (List.getD l (l_i + Int.toNat i) (cod 2).d).2.2.1, (List.getD l (l_i + Int.toNat i) (cod 2).d).2.2.2.1,     (List.getD l (l_i + Int.toNat i) (cod 2).d).2.2.2.2.1, (List.getD l (l_i + Int.toNat i) (cod 2).d).2.2.2.2.2)) (
  .ret (.fin (.c (.int .i64 i)) [])) (
  .need (Sym.i64ok (i + 1)) (
  .ret (.cut (cutAt Try.f88 2) ⟨tmG 10 [(0, .c (.slc 0 (l_i) (l_n) l_t)), (0, .c (.fn 68 [(1, 0, 0), (2, 0, 0)])), (5, .c (.int .i64 (Int.ofNat l_n))), (0, .c (.int .i64 (i + 1)))], [.inp 2 l, .rblk [.int .i64 a, .int .i64 b, .int .i64 c, .int .i64 d, .int .i64 e, .int .i64 f], .rblk [.int .i64 g]]⟩))))))) (
 .ret (.fin (.c (.int .i64 (-1))) [])) := by kernel_rfl



theorem ix2_loop (l : List F.Sp) (l_t : Bool) (l_i l_n : Nat) (a b c d e f g : Int) (h1 : l_i + l_n ≤ l.length) (h2 : l.length ≤ 1000000) (h3 : F.spOk (a, b, c, d, e, f) g) (h4 : F.allS l) (b0 : Base) (hb0 : b0.n = 3) (R : SV) : ∀ (m : Nat) (i : Int), 0 ≤ i → i + m = l_n → R = .c (.int .i64 (F.idxQ (F.alk g (a, b, c, d, e, f)) l m (l_i + i.toNat) i)) →
    Sym.Runs Try.prog b0 (cutAt Try.f88 2) (st_ix2_2 l l_t l_i l_n a b c d e f g i) (Sym.Ends Try.prog Try.f88 3 R []) := by
  intro m
  induction m with
  | zero =>
    intro i h0 hm hR
    refine Runs.go (cfg := C_sp1c) L_sp1c_ok mixed cuts_ix2 400 hb0 (ix2_t2 l l_t l_i l_n a b c d e f g i) ?_
    have k1 : ¬ i < (l_n : Int) := by omega
    simp only [T.wp, T.wp_cond, Aft, Int.ofNat_eq_natCast, decide_eq_true_eq, and_true, true_and, Nat.zero_add, Bool.not_eq_true', decide_eq_false_iff_not, k1, if_false, hR]
    rfl
  | succ m ih =>
    intro i h0 hm hR
    have k1 : i < (l_n : Int) := by omega
    have k2 : l_i + i.toNat < l.length := by omega
    have k3 : i64ok (i + 1) := by unfold i64ok; omega
    have k4 : l_i + (i + 1).toNat = l_i + i.toNat + 1 := by omega
    have hd : (cod 2).d = F.sp0 := rfl
    have hx : F.sp1 (l.getD (l_i + i.toNat) F.sp0) := h4 _ (by rw [List.getD, List.getElem?_eq_getElem k2]; exact List.getElem_mem k2)
    have nx := ih (i + 1) (by omega) (by omega)
    rw [k4] at nx
    refine Runs.go (cfg := C_sp1c) L_sp1c_ok mixed cuts_ix2 400 hb0 (ix2_t2 l l_t l_i l_n a b c d e f g i) ?_
    have e1 : F.alk g (a, b, c, d, e, f) ((l.getD (l_i + i.toNat) F.sp0).1, (l.getD (l_i + i.toNat) F.sp0).2.1, (l.getD (l_i + i.toNat) F.sp0).2.2.1, (l.getD (l_i + i.toNat) F.sp0).2.2.2) = F.alk g (a, b, c, d, e, f) (l.getD (l_i + i.toNat) F.sp0) := rfl
    simp only [T.wp, T.wp_cond, Aft, Int.ofNat_eq_natCast, decide_eq_true_eq, and_true, true_and, Nat.zero_add, Bool.not_eq_true', decide_eq_false_iff_not, h0, k1, k2, k3, hd, h3, e1, if_true]
    simp only [F.idxQ] at hR
    refine ⟨hx, ?_⟩
    cases hq : F.alk g (a, b, c, d, e, f) (l.getD (l_i + i.toNat) F.sp0)
    · rw [hq, if_neg (by simp)] at hR
      rw [if_neg (by simp)]
      exact nx hR
    · rw [hq, if_pos rfl] at hR
      rw [if_pos rfl]
      rw [hR]
theorem ix2_run (l : List (Int × Int × Int × Int × Int × Int)) (l_t : Bool) (l_i l_n : Nat) (a b c d e f : Int) (g : Int) (b0 : Base) (hb : b0.n = 3) (h0 : l_i + l_n ≤ List.length l) (h1 : List.length l ≤ 1000000) (h2 : F.spOk (a, b, c, d, e, f) g) (h3 : F.allS l) : Sym.Runs Try.prog b0 [.code (codeOf Try.f88)] ⟨argsS Try.f88 [.c (.slc 0 l_i l_n l_t), .c (.fn 68 [(1, 0, 0), (2, 0, 0)])], ([.inp 2 l, .rblk [.int .i64 a, .int .i64 b, .int .i64 c, .int .i64 d, .int .i64 e, .int .i64 f], .rblk [.int .i64 g]] : Heap cod)⟩ (Sym.Ends Try.prog Try.f88 3 (.c (.int .i64 (F.idxQ (F.alk g (a, b, c, d, e, f)) l l_n l_i 0))) []) := by
  refine Runs.go (cfg := C_sp1c) L_sp1c_ok mixed cuts_ix2 400 hb (ix2_t0 l l_t l_i l_n a b c d e f g) ?_
  simp only [T.wp, T.wp_cond, Aft, Int.ofNat_eq_natCast, decide_eq_true_eq, and_true, true_and, Nat.zero_add, Bool.not_eq_true', decide_eq_false_iff_not]
  exact ix2_loop l l_t l_i l_n a b c d e f g h0 h1 h2 h3 b0 hb _ l_n 0 (by omega) (by omega) rfl



noncomputable def s_ix2 : Summ cod := fun args H => match args, H with
  | [.c (.slc 0 l_i l_n l_t), .c (.fn 68 [(1, 0, 0), (2, 0, 0)])], [o0, .rblk [.int .i64 a, .int .i64 b, .int .i64 c, .int .i64 d, .int .i64 e, .int .i64 f], .rblk [.int .i64 g]] => (match o0.asInp 2 with | some l => .need ((l_i + l_n ≤ List.length l) ∧ (List.length l ≤ 1000000) ∧ (F.spOk (a, b, c, d, e, f) g) ∧ (F.allS l)) (.ret (.c (.int .i64 (F.idxQ (F.alk g (a, b, c, d, e, f)) l l_n l_i 0)), [])) | none => .fail)
  | _, _ => .fail


theorem ix2_sound : Sound Try.prog cod 88 s_ix2 := sound_runs (cfg := C_sp1c) L_sp1c_ok mixed Try.func88 rfl rfl _ fun args H r news hg b0 hb => by
  unfold s_ix2 at hg
  split at hg
  · skip
    split at hg
    · rename_i l hx0
      cases asInp_spec hx0
      simp only [T.gives, T.wp, Prod.mk.injEq] at hg
      obtain ⟨⟨q0, q1, q2, q3⟩, rfl, rfl⟩ := hg
      exact ix2_run _ _ _ _ _ _ _ _ _ _ _ b0 hb (by assumption) (by assumption) (by assumption) (by assumption)
    · exact hg.elim
  · exact hg.elim

noncomputable def L_ix2 : Sums cod := (88, .p s_ix2) :: L_sp1c
noncomputable def C_ix2 : Cfg cod := mkC L_ix2

theorem L_ix2_ok : Snd Try.prog cod L_ix2 := .cons ix2_sound L_sp1c_ok



def cuts_con2 : Cuts := []

theorem con2_t0 (l : List (Int × Int × Int × Int × Int × Int)) (l_t : Bool) (l_i l_n : Nat) (a b c d e f : Int) (g : Int) : symF C_ix2 cuts_con2 Try.f67.results.toList 3 400 [.code (codeOf Try.f67)] ⟨argsS Try.f67 [.c (.slc 0 l_i l_n l_t), .c (.fn 68 [(1, 0, 0), (2, 0, 0)])], ([.inp 2 l, .rblk [.int .i64 a, .int .i64 b, .int .i64 c, .int .i64 d, .int .i64 e, .int .i64 f], .rblk [.int .i64 g]] : Heap cod)⟩ =
.need ((l_i + l_n ≤ List.length l ∧ (List.length l ≤ 1000000 ∧ (F.spOk (a, b, c, d, e, f) g ∧ F.allS l)))) (
.ret (.fin (.c (.bool (decide (0 ≤ F.idxQ (F.alk g (a, b, c, d, e, f)) l l_n l_i 0)))) [])) := by kernel_rfl



theorem con2_run (l : List (Int × Int × Int × Int × Int × Int)) (l_t : Bool) (l_i l_n : Nat) (a b c d e f : Int) (g : Int) (b0 : Base) (hb : b0.n = 3) (h0 : l_i + l_n ≤ List.length l) (h1 : List.length l ≤ 1000000) (h2 : F.spOk (a, b, c, d, e, f) g) (h3 : F.allS l) : Sym.Runs Try.prog b0 [.code (codeOf Try.f67)] ⟨argsS Try.f67 [.c (.slc 0 l_i l_n l_t), .c (.fn 68 [(1, 0, 0), (2, 0, 0)])], ([.inp 2 l, .rblk [.int .i64 a, .int .i64 b, .int .i64 c, .int .i64 d, .int .i64 e, .int .i64 f], .rblk [.int .i64 g]] : Heap cod)⟩ (Sym.Ends Try.prog Try.f67 3 (.c (.bool (F.anyQ (F.alk g (a, b, c, d, e, f)) l l_n l_i))) []) := by
  refine Runs.go (cfg := C_ix2) L_ix2_ok mixed cuts_con2 400 hb (con2_t0 l l_t l_i l_n a b c d e f g) ?_
  simp only [T.wp, T.wp_cond, Aft, Int.ofNat_eq_natCast, decide_eq_true_eq, and_true, true_and, Nat.zero_add, Bool.not_eq_true', decide_eq_false_iff_not, idxQ_any _ _ _ _ _ (Int.le_refl 0)]
  exact ⟨h0, h1, h2, h3⟩



noncomputable def s_con2 : Summ cod := fun args H => match args, H with
  | [.c (.slc 0 l_i l_n l_t), .c (.fn 68 [(1, 0, 0), (2, 0, 0)])], [o0, .rblk [.int .i64 a, .int .i64 b, .int .i64 c, .int .i64 d, .int .i64 e, .int .i64 f], .rblk [.int .i64 g]] => (match o0.asInp 2 with | some l => .need ((l_i + l_n ≤ List.length l) ∧ (List.length l ≤ 1000000) ∧ (F.spOk (a, b, c, d, e, f) g) ∧ (F.allS l)) (.ret (.c (.bool (F.anyQ (F.alk g (a, b, c, d, e, f)) l l_n l_i)), [])) | none => .fail)
  | _, _ => .fail


theorem con2_sound : Sound Try.prog cod 67 s_con2 := sound_runs (cfg := C_ix2) L_ix2_ok mixed Try.func67 rfl rfl _ fun args H r news hg b0 hb => by
  unfold s_con2 at hg
  split at hg
  · skip
    split at hg
    · rename_i l hx0
      cases asInp_spec hx0
      simp only [T.gives, T.wp, Prod.mk.injEq] at hg
      obtain ⟨⟨q0, q1, q2, q3⟩, rfl, rfl⟩ := hg
      exact con2_run _ _ _ _ _ _ _ _ _ _ _ b0 hb (by assumption) (by assumption) (by assumption) (by assumption)
    · exact hg.elim
  · exact hg.elim

noncomputable def L_con2 : Sums cod := (67, .p s_con2) :: L_ix2
noncomputable def C_con2 : Cfg cod := mkC L_con2

theorem L_con2_ok : Snd Try.prog cod L_con2 := .cons con2_sound L_ix2_ok


end
end Go.Proofs.Ytbkpgpkeecnjpaa
