/- Part of a claim: lemmas on the way to its theorem; each states its own conditions. -/
import Derived.Test.YtgmnfdmlidhbcaaHc
import Derived.Test.YtgmnfdmlidhbcaaBd32
import Derived.Test.YtgmnfdmlidhbcaaBd26
namespace Go.Proofs.Ytgmnfdmlidhbcaa
open Sym Go.RowKit
noncomputable section
set_option maxRecDepth 100000
set_option maxHeartbeats 4000000



def cuts_clone : Cuts := []

theorem clone_t0 (l : List (List UInt8 × Int × Int)) (l_t : Bool) (l_i l_n : Nat) : symF C_hix cuts_clone Try.f38.results.toList 1 400 [.code (codeOf Try.f38)] ⟨argsS Try.f38 [.c (.slc 0 l_i l_n l_t)], ([.inp 1 l] : Heap cod)⟩ =
.need ((0 : Nat) < l_n) (
.need (List.length (List.take l_n (List.drop l_i l)) = l_n) (
.need (0 = 0) (
.need (((0 : Nat) < List.length (List.take l_n (List.drop l_i l)) ∧ 0 + List.length (List.take l_n (List.drop l_i l)) ≤ 1000000)) (
.ret (.fin (.c (.own 1 (0 + List.length (List.take l_n (List.drop l_i l))))) [.own 1 ([] ++ (List.take l_n (List.drop l_i l))) 57]))))) := by kernel_rfl



theorem clone_run (l : List (List UInt8 × Int × Int)) (l_t : Bool) (l_i l_n : Nat) (b0 : Base) (hb : b0.n = 1) (h0 : l_i + l_n ≤ List.length l) (h1 : 0 < l_n) (h2 : l_n ≤ 1000000) : Sym.Runs Try.prog b0 [.code (codeOf Try.f38)] ⟨argsS Try.f38 [.c (.slc 0 l_i l_n l_t)], ([.inp 1 l] : Heap cod)⟩ (Sym.Ends Try.prog Try.f38 1 (.c (.own 1 l_n)) [.own 1 ((l.drop l_i).take l_n) 57]) := by
  refine Runs.go (cfg := C_hix) L_hix_ok mixed cuts_clone 400 hb (clone_t0 l l_t l_i l_n) ?_
  have e : (List.take l_n (List.drop l_i l)).length = l_n := by rw [List.length_take, List.length_drop]; omega
  simp only [T.wp, T.wp_cond, Aft, Int.ofNat_eq_natCast, decide_eq_true_eq, and_true, true_and, Nat.zero_add, Bool.not_eq_true', decide_eq_false_iff_not, e, List.nil_append]
  refine ⟨h1, ⟨h1, h2⟩, ?_⟩
  simp [e]
  rfl



noncomputable def s_clone : Summ cod := fun args H => match args, H with
  | [.c (.slc 0 l_i l_n l_t)], [o0] => (match o0.asInp 1 with | some l => .need ((l_i + l_n ≤ List.length l) ∧ (0 < l_n) ∧ (l_n ≤ 1000000)) (.ret (.c (.own 1 l_n), [.own 1 ((l.drop l_i).take l_n) 57])) | none => .fail)
  | _, _ => .fail


theorem clone_sound : Sound Try.prog cod 38 s_clone := sound_runs (cfg := C_hix) L_hix_ok mixed Try.func38 rfl rfl _ fun args H r news hg b0 hb => by
  unfold s_clone at hg
  split at hg
  · skip
    split at hg
    · rename_i l hx0
      cases asInp_spec hx0
      simp only [T.gives, T.wp, Prod.mk.injEq] at hg
      obtain ⟨⟨q0, q1, q2⟩, rfl, rfl⟩ := hg
      exact clone_run _ _ _ _ b0 hb (by assumption) (by assumption) (by assumption)
    · exact hg.elim
  · exact hg.elim

noncomputable def L_clone : Sums cod := (38, .p s_clone) :: L_hix
noncomputable def C_clone : Cfg cod := mkC L_clone

theorem L_clone_ok : Snd Try.prog cod L_clone := .cons clone_sound L_hix_ok



noncomputable def s_clone0 : Summ cod := fun args _ => match args with
  | [.c (.slc h _ n _)] => .need (n = 0) (.ret (.c (.slc h 0 0 true), []))
  | _ => .fail
/-- By the number of elements: none, or some. -/
noncomputable def s_len (s1 s2 : Summ cod) : Summ cod := fun args H => match args with
  | [.c (.slc _ _ n _)] => .ite (decide (n = 0)) (s1 args H) (s2 args H)
  | _ => .fail
noncomputable def s_cloneB : Summ cod := s_len s_clone0 s_clone


theorem Sound.len {g : FuncId} {s1 s2 : Summ cod} (h1 : Sound Try.prog cod g s1) (h2 : Sound Try.prog cod g s2) : Sound Try.prog cod g (s_len s1 s2) := by
  refine ⟨h1.enters, fun args H env w vs r news hro G ha hg => ?_⟩
  unfold s_len at hg
  split at hg
  · rename_i x i n t
    by_cases c : n = 0
    · exact h1.calls _ H env w vs r news hro G ha (hg.1 (by simp [c]))
    · exact h2.calls _ H env w vs r news hro G ha (hg.2 (by simp [c]))
  · exact hg.elim
theorem clone0_sound : Sound Try.prog cod 38 s_clone0 := by
  refine ⟨clone_sound.enters, fun args H env w vs r news hro G ha hg => ?_⟩
  unfold s_clone0 at hg
  split at hg
  · rename_i x i n t
    obtain ⟨hn, hr⟩ := hg
    subst hn
    cases hr
    cases ha with
    | @cons _ v0 _ vs hx hxs =>
      cases hxs
      obtain ⟨hN, A, c, rfl, h1, h2, h3, h4⟩ := hx
      cases A with
      | none =>
        refine (cloneC_none c w).mono ?_
        rintro e w' ⟨rfl, rfl⟩
        exact ⟨_, env, rfl, EnvEq.refl _ _, ⟨hN, none, 0, rfl, Nat.le_refl _, by decide, fun _ => rfl, fun h => absurd h (by decide)⟩, by simpa using G, ⟨Below.refl _ _, Nat.le_refl _⟩⟩
      | some a =>
        refine (cloneC_zero a c w).mono ?_
        rintro e w' ⟨A, rfl, hb, hd⟩
        exact ⟨_, env, rfl, EnvEq.refl _ _, ⟨hN, A, 0, rfl, Nat.le_refl _, by decide, fun _ => rfl, fun h => absurd h (by decide)⟩, by simpa using G.below hb (Nat.le_refl _), ⟨hb, dl_mono hd⟩⟩
  · exact hg.elim
theorem cloneB_sound : Sound Try.prog cod 38 s_cloneB := Sound.len clone0_sound clone_sound

noncomputable def L_cloneB : Sums cod := (38, .p s_cloneB) :: L_clone
noncomputable def C_cloneB : Cfg cod := mkC L_cloneB

theorem L_cloneB_ok : Snd Try.prog cod L_cloneB := .cons cloneB_sound L_clone_ok



noncomputable def s_delC : Summ cod := s_del 1 57


theorem delC_sound : SoundI Try.prog cod 37 s_delC := del_sound (zs := [.string ⟨#[]⟩, .int .i64 0, .int .i64 0]) ⟨fun args w => enters_fn Try.func37 rfl rfl args w, rfl, fun b n cap i cur w h1 h2 h3 h4 h5 h6 => ho_delete b n cap i cur w h1 h2 h3 h4 h5 h6⟩

noncomputable def L_delC : Sums cod := (37, .i s_delC) :: L_cloneB
noncomputable def C_delC : Cfg cod := mkC L_delC

theorem L_delC_ok : Snd Try.prog cod L_delC := .consI delC_sound L_cloneB_ok



def cuts_hlist : Cuts := []

theorem hlist_t0 (lo hi st : Int) (l : List (List UInt8 × Int × Int)) (l_t : Bool) (now : Int) : symF C_delC cuts_hlist Try.f27.results.toList 2 400 [.code (codeOf Try.f27)] ⟨argsS Try.f27 [.c (.ptr 0 0 0)], ([.rblk [.int .i64 lo, .int .i64 hi, .int .i64 st, .slc 1 0 (List.length l) l_t, .int .i64 now], .inp 1 l] : Heap cod)⟩ =
.ite (decide (List.length l = 0)) (
 .need (List.length l = 0) (
 .ret (.fin (.c (.slc 1 0 0 true)) []))) (
 .need ((0 + List.length l ≤ List.length l ∧ ((0 : Nat) < List.length l ∧ List.length l ≤ 1000000))) (
 .ret (.fin (.c (.own 2 (List.length l))) [.own 1 (List.take (List.length l) (List.drop 0 l)) 57]))) := by kernel_rfl



theorem hlist_run (lo hi st : Int) (l : List (List UInt8 × Int × Int)) (l_t : Bool) (now : Int) (b0 : Base) (hb : b0.n = 2) (h0 : 0 < l.length) (h1 : l.length ≤ 100000) : Sym.Runs Try.prog b0 [.code (codeOf Try.f27)] ⟨argsS Try.f27 [.c (.ptr 0 0 0)], ([.rblk [.int .i64 lo, .int .i64 hi, .int .i64 st, .slc 1 0 (List.length l) l_t, .int .i64 now], .inp 1 l] : Heap cod)⟩ (Sym.Ends Try.prog Try.f27 2 (.c (.own 2 (List.length l))) [.own 1 l 57]) := by
  refine Runs.go (cfg := C_delC) L_delC_ok mixed cuts_hlist 400 hb (hlist_t0 lo hi st l l_t now) ?_
  simp only [T.wp, T.wp_cond, Aft, Int.ofNat_eq_natCast, decide_eq_true_eq, and_true, true_and, Nat.zero_add, Bool.not_eq_true', decide_eq_false_iff_not]
  have e : List.take l.length (List.drop 0 l) = l := by rw [List.drop_zero, List.take_length]
  exact ⟨fun e => absurd e (by omega), fun _ => ⟨⟨by omega, by omega, by omega⟩, congrArg (fun x => [HObj.own 1 x 57]) e⟩⟩



noncomputable def s_hlist : Summ cod := fun args H => match args, H with
  | [.c (.ptr 0 0 0)], [.rblk [.int .i64 lo, .int .i64 hi, .int .i64 st, .slc 1 l_i l_n l_t, .int .i64 now], o1] => (match o1.asInp 1 with | some l => .need ((l_i = 0 ∧ l_n = List.length l) ∧ (0 < l.length) ∧ (l.length ≤ 100000)) (.ret (.c (.own 2 (List.length l)), [.own 1 l 57])) | none => .fail)
  | _, _ => .fail


theorem hlist_sound : Sound Try.prog cod 27 s_hlist := sound_runs (cfg := C_delC) L_delC_ok mixed Try.func27 rfl rfl _ fun args H r news hg b0 hb => by
  unfold s_hlist at hg
  split at hg
  · skip
    split at hg
    · rename_i l hx1
      cases asInp_spec hx1
      simp only [T.gives, T.wp, Prod.mk.injEq] at hg
      obtain ⟨⟨⟨rfl, rfl⟩, q1, q2⟩, rfl, rfl⟩ := hg
      exact hlist_run _ _ _ _ _ _ b0 hb (by assumption) (by assumption)
    · exact hg.elim
  · exact hg.elim

noncomputable def L_hlist : Sums cod := (27, .p s_hlist) :: L_delC
noncomputable def C_hlist : Cfg cod := mkC L_hlist

theorem L_hlist_ok : Snd Try.prog cod L_hlist := .cons hlist_sound L_delC_ok



def cuts_hlist0 : Cuts := []

theorem hlist0_t0 (lo hi st : Int) (l : List (List UInt8 × Int × Int)) (l_t : Bool) (now : Int) : symF C_hlist cuts_hlist0 Try.f27.results.toList 2 400 [.code (codeOf Try.f27)] ⟨argsS Try.f27 [.c (.ptr 0 0 0)], ([.rblk [.int .i64 lo, .int .i64 hi, .int .i64 st, .slc 1 0 (List.length l) l_t, .int .i64 now], .inp 1 l] : Heap cod)⟩ =
.ite (decide (List.length l = 0)) (
 .need (List.length l = 0) (
 .ret (.fin (.c (.slc 1 0 0 true)) []))) (
 .need ((0 + List.length l ≤ List.length l ∧ ((0 : Nat) < List.length l ∧ List.length l ≤ 1000000))) (
 .ret (.fin (.c (.own 2 (List.length l))) [.own 1 (List.take (List.length l) (List.drop 0 l)) 57]))) := by kernel_rfl



theorem hlist0_run (lo hi st : Int) (l : List (List UInt8 × Int × Int)) (l_t : Bool) (now : Int) (b0 : Base) (hb : b0.n = 2) (h0 : l.length = 0) : Sym.Runs Try.prog b0 [.code (codeOf Try.f27)] ⟨argsS Try.f27 [.c (.ptr 0 0 0)], ([.rblk [.int .i64 lo, .int .i64 hi, .int .i64 st, .slc 1 0 (List.length l) l_t, .int .i64 now], .inp 1 l] : Heap cod)⟩ (Sym.Ends Try.prog Try.f27 2 (.c (.slc 1 0 0 true)) []) := by
  refine Runs.go (cfg := C_hlist) L_hlist_ok mixed cuts_hlist0 400 hb (hlist0_t0 lo hi st l l_t now) ?_
  simp only [T.wp, T.wp_cond, Aft, Int.ofNat_eq_natCast, decide_eq_true_eq, and_true, true_and, Nat.zero_add, Bool.not_eq_true', decide_eq_false_iff_not]
  exact ⟨fun e => e, fun e => absurd h0 e⟩



noncomputable def s_hlist0 : Summ cod := fun args H => match args, H with
  | [.c (.ptr 0 0 0)], [.rblk [.int .i64 lo, .int .i64 hi, .int .i64 st, .slc 1 l_i l_n l_t, .int .i64 now], o1] => (match o1.asInp 1 with | some l => .need ((l_i = 0 ∧ l_n = List.length l) ∧ (l.length = 0)) (.ret (.c (.slc 1 0 0 true), [])) | none => .fail)
  | _, _ => .fail


theorem hlist0_sound : Sound Try.prog cod 27 s_hlist0 := sound_runs (cfg := C_hlist) L_hlist_ok mixed Try.func27 rfl rfl _ fun args H r news hg b0 hb => by
  unfold s_hlist0 at hg
  split at hg
  · skip
    split at hg
    · rename_i l hx1
      cases asInp_spec hx1
      simp only [T.gives, T.wp, Prod.mk.injEq] at hg
      obtain ⟨⟨⟨rfl, rfl⟩, q1⟩, rfl, rfl⟩ := hg
      exact hlist0_run _ _ _ _ _ _ b0 hb (by assumption)
    · exact hg.elim
  · exact hg.elim

noncomputable def L_hlist0 : Sums cod := (27, .p s_hlist0) :: L_hlist
noncomputable def C_hlist0 : Cfg cod := mkC L_hlist0

theorem L_hlist0_ok : Snd Try.prog cod L_hlist0 := .cons hlist0_sound L_hlist_ok



/-- By the number of levels: none, or some. -/
noncomputable def s_hlistB : Summ cod := fun args H => match H with
  | [.rblk [_, _, _, .slc 1 _ n _, _], _] => .ite (decide (n = 0)) (s_hlist0 args H) (s_hlist args H)
  | _ => .fail


theorem hlistB_sound : Sound Try.prog cod 27 s_hlistB := by
  refine ⟨hlist_sound.enters, fun args H env w vs r news hro G ha hg => ?_⟩
  unfold s_hlistB at hg
  split at hg
  · rename_i i n tt x o
    by_cases c : n = 0
    · exact hlist0_sound.calls _ _ env w vs r news hro G ha (hg.1 (by simp [c]))
    · exact hlist_sound.calls _ _ env w vs r news hro G ha (hg.2 (by simp [c]))
  · exact hg.elim


noncomputable def L_hlistB : Sums cod := (27, .p s_hlistB) :: L_delC
noncomputable def C_hlistB : Cfg cod := mkC L_hlistB

theorem L_hlistB_ok : Snd Try.prog cod L_hlistB := .cons hlistB_sound L_delC_ok



namespace F
def nxt (lo st : Int) (l : List HL) : Int := if 0 < l.length then (l.getD (l.length - 1) hl0).2.1 + st else lo
def entE (lo hi st : Int) (l : List HL) (now : Int) (c : List UInt8) (t : Int) : Int := if named c then (if 0 ≤ ixc l c then 7 else (if wrn now t then 12 else (if hi < nxt lo st l then 9 else 0))) else 6
def hlk (c : List UInt8) (h t : Int) : HL := (c, h, t)
def entL (lo hi st : Int) (l : List HL) (now : Int) (c : List UInt8) (t : Int) : List HL := if entE lo hi st l now c t = 0 then l ++ [hlk c (nxt lo st l) t] else l
def entV (lo hi st : Int) (l : List HL) (now : Int) (c : List UInt8) (t : Int) : Int := if entE lo hi st l now c t = 0 then nxt lo st l else 0
def entT (lo hi st : Int) (l : List HL) (now : Int) (c : List UInt8) (t : Int) : Int := if entE lo hi st l now c t = 0 then t else now
def dnS (lo st : Int) (l : List HL) (i : Nat) : Bool := decide (lo ≤ (l.getD i hl0).2.1 - st) && (decide (i = 0) || decide ((l.getD (i - 1) hl0).2.1 < (l.getD i hl0).2.1 - st))
def lower (st : Int) (x : HL) : HL := (x.1, x.2.1 - st, x.2.2)
def dnG (lo st : Int) : Nat → Nat → List HL → Int → List HL × Int
  | 0, _, l, n => (l, n)
  | m + 1, i, l, n => if dnS lo st l i then dnG lo st m (i + 1) (l.set i (lower st (l.getD i hl0))) (n + 1) else dnG lo st m (i + 1) l n
def downL (lo st : Int) (l : List HL) (now t : Int) : List HL := if wrn now t then l else (dnG lo st l.length 0 l 0).1
def downN (lo st : Int) (l : List HL) (now t : Int) : Int := if wrn now t then 0 else (dnG lo st l.length 0 l 0).2
def downE (now t : Int) : Int := if wrn now t then 12 else 0
def downT (now t : Int) : Int := if wrn now t then now else t
def leaE (l : List HL) (now : Int) (c : List UInt8) (t : Int) : Int := if ixc l c < 0 then 8 else (if wrn now t then 12 else (if 0 < ixc l c then 11 else 0))
def leaV (l : List HL) (now : Int) (c : List UInt8) (t : Int) : Int := if leaE l now c t = 0 then t - (l.getD 0 hl0).2.2 else 0
def leaL (l : List HL) (now : Int) (c : List UInt8) (t : Int) : List HL := if leaE l now c t = 0 then l.eraseIdx 0 else l
def leaT (l : List HL) (now : Int) (c : List UInt8) (t : Int) : Int := if leaE l now c t = 0 then t else now
/-- Heights and times that sums of them fit. -/
def hok (l : List HL) : Prop := l.length ≤ 100 ∧ ∀ x ∈ l, (0 ≤ x.2.1 ∧ x.2.1 ≤ 1000000) ∧ (0 ≤ x.2.2 ∧ x.2.2 ≤ 200000)
end F


theorem ixG_lt (c : List UInt8) : ∀ (l : List F.HL) (i : Int), F.ixG c l i = -1 ∨ (0 < l.length ∧ i ≤ F.ixG c l i ∧ F.ixG c l i < i + l.length)
  | [], _ => .inl rfl
  | p :: r, i => by
    unfold F.ixG
    by_cases e : p.1 = c
    · rw [if_pos e]
      exact .inr ⟨by simp, by omega, by simp; omega⟩
    · rw [if_neg e]
      rcases ixG_lt c r (i + 1) with h | ⟨h1, h2, h3⟩
      · exact .inl h
      · exact .inr ⟨by simp, by omega, by simp; omega⟩
theorem ixc_pos {l : List F.HL} {c : List UInt8} (h : 0 ≤ F.ixc l c) : 0 < l.length := by
  rcases ixG_lt c l 0 with q | q
  · unfold F.ixc at h; omega
  · exact q.1


def cuts_hent : Cuts := [(100005, [8, 2, 1, 0], 2)]
def cuts_hent_r5 : Cuts := []

theorem hent_t0 (lo hi st : Int) (l : List (List UInt8 × Int × Int)) (now : Int) (c : List UInt8) (t : Int) : symI C_hlistB cuts_hent Try.f17.results.toList ([.blk [.int .i64 lo, .int .i64 hi, .int .i64 st, .own 1 (List.length l), .int .i64 now] 72, .own 1 l 57] : Heap cod) 400 [.code (codeOf Try.f17)] ⟨argsS Try.f17 [.c (.ptr 0 0 0), .c (.str c), .c (.int .i64 t)], ([.blk [.int .i64 lo, .int .i64 hi, .int .i64 st, .own 1 (List.length l), .int .i64 now] 72, .own 1 l 57] : Heap cod)⟩ =
 cond (decide (0 < Int.ofNat (List.length l))) (
 .need (i64ok (Int.ofNat (List.length l) - 1)) (
 .need (((0 : Int) ≤ Int.ofNat (List.length l) - 1 ∧ Int.ofNat (List.length l) - 1 < Int.ofNat (List.length l))) (
 .need (0 + Int.toNat (Int.ofNat (List.length l) - 1) < List.length l) (
 .need (i64ok ((List.getD l (0 + Int.toNat (Int.ofNat (List.length l) - 1)) (cod 1).d).2.1 + st)) (
 .ret (.cut (regAt Try.f17 5) ⟨tmG 67 [(0, .c (.ptr 0 0 0)), (0, .c (.str c)), (0, .c (.int .i64 t)), (5, .c (.int .i64 ((List.getD l (0 + Int.toNat (Int.ofNat (List.length l) - 1)) (cod 1).d).2.1 + st)))], [.blk [.int .i64 lo, .int .i64 hi, .int .i64 st, .own 1 (List.length l), .int .i64 now] 72, .own 1 l 57]⟩)))))) (
 .ret (.cut (regAt Try.f17 5) ⟨tmG 67 [(0, .c (.ptr 0 0 0)), (0, .c (.str c)), (0, .c (.int .i64 t)), (5, .c (.int .i64 lo))], [.blk [.int .i64 lo, .int .i64 hi, .int .i64 st, .own 1 (List.length l), .int .i64 now] 72, .own 1 l 57]⟩)) := by kernel_rfl


noncomputable def st_hent_r5 (lo hi st : Int) (l : List (List UInt8 × Int × Int)) (now : Int) (c : List UInt8) (t : Int) (h : Int) : St cod := ⟨tmG 67 [(0, .c (.ptr 0 0 0)), (0, .c (.str c)), (0, .c (.int .i64 t)), (5, .c (.int .i64 h))], [.blk [.int .i64 lo, .int .i64 hi, .int .i64 st, .own 1 (List.length l), .int .i64 now] 72, .own 1 l 57]⟩


theorem hent_tr5 (lo hi st : Int) (l : List (List UInt8 × Int × Int)) (now : Int) (c : List UInt8) (t : Int) (h : Int) : symI C_hlistB cuts_hent_r5 Try.f17.results.toList ([.blk [.int .i64 lo, .int .i64 hi, .int .i64 st, .own 1 (List.length l), .int .i64 now] 72, .own 1 l 57] : Heap cod) 400 (regAt Try.f17 5) (st_hent_r5 lo hi st l now c t h) =
 cond (!F.named c) (
 .ret (.fin (.tup [.c (.int .i64 0), .c (.int .i64 6)]) [.blk [.int .i64 lo, .int .i64 hi, .int .i64 st, .own 1 (List.length l), .int .i64 now] 72, .own 1 l 57])) (
 .need (((0 = 0 ∧ List.length l = List.length l) ∧ List.length l ≤ 100000)) (
 cond (decide (0 ≤ F.ixc l c)) (
  .ret (.fin (.tup [.c (.int .i64 0), .c (.int .i64 7)]) [.blk [.int .i64 lo, .int .i64 hi, .int .i64 st, .own 1 (List.length l), .int .i64 now] 72, .own 1 l 57])) (
  .need ((0 = 0 ∧ List.length l = List.length l)) (
  cond (F.wrn now t) (
   .ret (.fin (.tup [.c (.int .i64 0), .c (.int .i64 12)]) [.blk [.int .i64 lo, .int .i64 hi, .int .i64 st, .own 1 (List.length l), .int .i64 now] 72, .own 1 l 57])) (
   cond (decide (hi < h)) (
    .ret (.fin (.tup [.c (.int .i64 0), .c (.int .i64 9)]) [.blk [.int .i64 lo, .int .i64 hi, .int .i64 st, .own 1 (List.length l), .int .i64 now] 72, .own 1 l 57])) (
    .need (1 = 1) (
    .need (List.length l + 1 ≤ 1000000) (
    .ret (.fin (.tup [.c (.int .i64 h), .c (.int .i64 0)]) [.blk [.int .i64 lo, .int .i64 hi, .int .i64 st, .own 1 (List.length l + 1), .int .i64 t] 72, .own 1 (l ++ ([(c, h, t)])) 57]))))))))) := by kernel_rfl



theorem hent_run (lo hi st : Int) (l : List (List UInt8 × Int × Int)) (now : Int) (c : List UInt8) (t : Int) (b0 : Base) (hb : b0.n = 2) (h0 : F.hok l) (h1 : 0 ≤ st ∧ st ≤ 100000) : Sym.Runs Try.prog b0 [.code (codeOf Try.f17)] ⟨argsS Try.f17 [.c (.ptr 0 0 0), .c (.str c), .c (.int .i64 t)], ([.blk [.int .i64 lo, .int .i64 hi, .int .i64 st, .own 1 (List.length l), .int .i64 now] 72, .own 1 l 57] : Heap cod)⟩ (Sym.EndsI Try.prog Try.f17 ([.blk [.int .i64 lo, .int .i64 hi, .int .i64 st, .own 1 (List.length l), .int .i64 now] 72, .own 1 l 57] : Heap cod) (.tup [.c (.int .i64 (F.entV lo hi st l now c t)), .c (.int .i64 (F.entE lo hi st l now c t))]) [.blk [.int .i64 lo, .int .i64 hi, .int .i64 st, .own 1 (List.length (F.entL lo hi st l now c t)), .int .i64 (F.entT lo hi st l now c t)] 72, .own 1 (F.entL lo hi st l now c t) 57]) := by
  have fin : ∀ h : Int, h = F.nxt lo st l → Sym.Runs Try.prog b0 (regAt Try.f17 5) (st_hent_r5 lo hi st l now c t h) (Sym.EndsI Try.prog Try.f17 ([.blk [.int .i64 lo, .int .i64 hi, .int .i64 st, .own 1 (List.length l), .int .i64 now] 72, .own 1 l 57] : Heap cod) (.tup [.c (.int .i64 (F.entV lo hi st l now c t)), .c (.int .i64 (F.entE lo hi st l now c t))]) [.blk [.int .i64 lo, .int .i64 hi, .int .i64 st, .own 1 (List.length (F.entL lo hi st l now c t)), .int .i64 (F.entT lo hi st l now c t)] 72, .own 1 (F.entL lo hi st l now c t) 57]) := by
    intro h hh
    subst hh
    refine Runs.goI (cfg := C_hlistB) L_hlistB_ok mixed cuts_hent_r5 400 (H := ([.blk [.int .i64 lo, .int .i64 hi, .int .i64 st, .own 1 (List.length l), .int .i64 now] 72, .own 1 l 57] : Heap cod)) hb (hent_tr5 lo hi st l now c t (F.nxt lo st l)) ?_
    have hlen := h0.1
    simp only [T.wp, T.wp_cond, Aft, Int.ofNat_eq_natCast, decide_eq_true_eq, and_true, true_and, Nat.zero_add, Bool.not_eq_true', decide_eq_false_iff_not]
    have bad : ∀ e : Int, e ≠ 0 → F.entE lo hi st l now c t = e → (SV.tup [.c (.int .i64 0), .c (.int .i64 e)] : SV) = .tup [.c (.int .i64 (F.entV lo hi st l now c t)), .c (.int .i64 (F.entE lo hi st l now c t))] ∧ ([.blk [.int .i64 lo, .int .i64 hi, .int .i64 st, .own 1 (List.length l), .int .i64 now] 72, .own 1 l 57] : Heap cod) = [.blk [.int .i64 lo, .int .i64 hi, .int .i64 st, .own 1 (List.length (F.entL lo hi st l now c t)), .int .i64 (F.entT lo hi st l now c t)] 72, .own 1 (F.entL lo hi st l now c t) 57] := by
      intro e he eE
      have e1 : F.entL lo hi st l now c t = l := by unfold F.entL; rw [if_neg (by rw [eE]; exact he)]
      have e2 : F.entV lo hi st l now c t = 0 := by unfold F.entV; rw [if_neg (by rw [eE]; exact he)]
      have e3 : F.entT lo hi st l now c t = now := by unfold F.entT; rw [if_neg (by rw [eE]; exact he)]
      rw [eE, e1, e2, e3]
      exact ⟨rfl, rfl⟩
    cases c1 : F.named c with
    | false => exact ite_yes rfl (bad 6 (by decide) (by unfold F.entE; rw [c1]; rfl))
    | true =>
    refine ite_no (by decide) ⟨by omega, ?_⟩
    by_cases c2 : 0 ≤ F.ixc l c
    · exact ite_yes c2 (bad 7 (by decide) (by unfold F.entE; rw [c1, if_pos rfl, if_pos c2]))
    refine ite_no c2 ?_
    cases c3 : F.wrn now t with
    | true => exact ite_yes rfl (bad 12 (by decide) (by unfold F.entE; rw [c1, if_pos rfl, if_neg c2, c3, if_pos rfl]))
    | false =>
    refine ite_no (by decide) ?_
    by_cases c4 : hi < F.nxt lo st l
    · exact ite_yes c4 (bad 9 (by decide) (by unfold F.entE; rw [c1, if_pos rfl, if_neg c2, c3, if_neg (by decide), if_pos c4]))
    · have eE : F.entE lo hi st l now c t = 0 := by unfold F.entE; rw [c1, if_pos rfl, if_neg c2, c3, if_neg (by decide), if_neg c4]
      have e1 : F.entL lo hi st l now c t = l ++ [(c, F.nxt lo st l, t)] := by unfold F.entL; rw [if_pos eE]; rfl
      have e2 : F.entV lo hi st l now c t = F.nxt lo st l := by unfold F.entV; rw [if_pos eE]
      have e3 : F.entT lo hi st l now c t = t := by unfold F.entT; rw [if_pos eE]
      have en : (l ++ [(c, F.nxt lo st l, t)]).length = l.length + 1 := by simp
      rw [eE, e1, e2, e3, en]
      exact ite_no c4 ⟨by omega, rfl, rfl⟩
  refine Runs.goI (cfg := C_hlistB) L_hlistB_ok mixed cuts_hent 400 (H := ([.blk [.int .i64 lo, .int .i64 hi, .int .i64 st, .own 1 (List.length l), .int .i64 now] 72, .own 1 l 57] : Heap cod)) hb (hent_t0 lo hi st l now c t) ?_
  have d0 : (cod 1).d = F.hl0 := rfl
  have hlen := h0.1
  simp only [T.wp, T.wp_cond, Aft, Int.ofNat_eq_natCast, decide_eq_true_eq, and_true, true_and, Nat.zero_add, Bool.not_eq_true', decide_eq_false_iff_not, Nat.zero_add, d0]
  by_cases c0 : 0 < l.length
  · have e0 : Int.toNat ((l.length : Int) - 1) = l.length - 1 := by omega
    have hm : l.getD (l.length - 1) F.hl0 ∈ l := by
      rw [List.getD_eq_getElem?_getD, List.getElem?_eq_getElem (by omega)]
      exact List.getElem_mem _
    have hb1 := (h0.2 _ hm).1
    rw [e0]
    refine ite_yes (by omega) ⟨by unfold Sym.i64ok; omega, ⟨by omega, by omega⟩, by omega, by unfold Sym.i64ok; omega, fin _ ?_⟩
    unfold F.nxt
    rw [if_pos c0]
  · refine ite_no (by omega) (fin _ ?_)
    unfold F.nxt
    rw [if_neg c0]



noncomputable def s_hent : Summ cod := fun args H => match args, H with
  | [.c (.ptr 0 0 0), .c (.str c), .c (.int .i64 t)], [.blk [.int .i64 lo, .int .i64 hi, .int .i64 st, .own 1 q, .int .i64 now] 72, o1] => (match o1.asOwn 1 57 with | some l => .need ((.blk [.int .i64 lo, .int .i64 hi, .int .i64 st, .own 1 q, .int .i64 now] 72 : HObj cod) = .blk [.int .i64 lo, .int .i64 hi, .int .i64 st, .own 1 (List.length l), .int .i64 now] 72) (.need ((F.hok l) ∧ (0 ≤ st ∧ st ≤ 100000)) (.ret (.tup [.c (.int .i64 (F.entV lo hi st l now c t)), .c (.int .i64 (F.entE lo hi st l now c t))], [.blk [.int .i64 lo, .int .i64 hi, .int .i64 st, .own 1 (List.length (F.entL lo hi st l now c t)), .int .i64 (F.entT lo hi st l now c t)] 72, .own 1 (F.entL lo hi st l now c t) 57]))) | none => .fail)
  | _, _ => .fail


theorem hent_sound : SoundI Try.prog cod 17 s_hent := tree_soundI (cfg := C_hlistB) Try.func17 rfl rfl _ fun args H r H' hg b0 hb => by
  unfold s_hent at hg
  split at hg
  · skip
    split at hg
    · rename_i l hx1
      cases asOwn_spec hx1
      obtain ⟨ot0, hg⟩ := hg
      cases ot0
      obtain ⟨hq, hg⟩ := hg
      obtain ⟨q0, q1⟩ := hq
      cases hg
      exact hent_run _ _ _ _ _ _ _ b0 hb (by assumption) (by assumption)
    · exact hg.elim
  · exact hg.elim

noncomputable def L_hent : Sums cod := (17, .i s_hent) :: L_hlistB
noncomputable def C_hent : Cfg cod := mkC L_hent

theorem L_hent_ok : Snd Try.prog cod L_hent := .consI hent_sound L_hlistB_ok



def cuts_hdown : Cuts := [(6, [0, 20, 21, 6], 2)]

theorem hdown_t0 (lo hi st : Int) (l : List (List UInt8 × Int × Int)) (now : Int) (t : Int) : symI C_hent cuts_hdown Try.f22.results.toList ([.blk [.int .i64 lo, .int .i64 hi, .int .i64 st, .own 1 (List.length l), .int .i64 now] 72, .own 1 l 57] : Heap cod) 400 [.code (codeOf Try.f22)] ⟨argsS Try.f22 [.c (.ptr 0 0 0), .c (.int .i64 t)], ([.blk [.int .i64 lo, .int .i64 hi, .int .i64 st, .own 1 (List.length l), .int .i64 now] 72, .own 1 l 57] : Heap cod)⟩ =
.need ((0 = 0 ∧ List.length l = List.length l)) (
 cond (F.wrn now t) (
 .ret (.fin (.tup [.c (.int .i64 0), .c (.int .i64 12)]) [.blk [.int .i64 lo, .int .i64 hi, .int .i64 st, .own 1 (List.length l), .int .i64 now] 72, .own 1 l 57])) (
 .ret (.cut (cutAt Try.f22 6) ⟨tmG 52 [(0, .c (.ptr 0 0 0)), (5, .c (.int .i64 0)), (13, .c (.int .i64 (Int.ofNat (List.length l)))), (0, .c (.int .i64 0))], [.blk [.int .i64 lo, .int .i64 hi, .int .i64 st, .own 1 (List.length l), .int .i64 t] 72, .own 1 l 57]⟩))) := by kernel_rfl


noncomputable def st_hdown_6 (lo hi st : Int) (l : List (List UInt8 × Int × Int)) (now : Int) (t : Int) (ts : List (List UInt8 × Int × Int)) (q : Nat) (nw : Int) (n i : Int) : St cod := ⟨tmG 52 [(0, .c (.ptr 0 0 0)), (5, .c (.int .i64 n)), (13, .c (.int .i64 (Int.ofNat (List.length l)))), (0, .c (.int .i64 i))], ([.blk [.int .i64 lo, .int .i64 hi, .int .i64 st, .own 1 q, .int .i64 nw] 72, .own 1 ts 57] : Heap cod)⟩


theorem hdown_t6 (lo hi st : Int) (l : List (List UInt8 × Int × Int)) (now : Int) (t : Int) (ts : List (List UInt8 × Int × Int)) (q : Nat) (nw : Int) (n i : Int) : symI C_hent cuts_hdown Try.f22.results.toList ([.blk [.int .i64 lo, .int .i64 hi, .int .i64 st, .own 1 (List.length l), .int .i64 now] 72, .own 1 l 57] : Heap cod) 400 (cutAt Try.f22 6) (st_hdown_6 lo hi st l now t ts q nw n i) =
 cond (decide (i < Int.ofNat (List.length l))) (
 .need (((0 : Int) ≤ i ∧ i < Int.ofNat q)) (
 .need (0 + Int.toNat i < List.length ts) (
 .need (i64ok ((List.getD ts (0 + Int.toNat i) (cod 1).d).2.1 - st)) (
 cond (decide (lo ≤ (List.getD ts (0 + Int.toNat i) (cod 1).d).2.1 - st)) (
  cond (decide (i = 0)) (
   .need (((0 : Int) ≤ i ∧ i < Int.ofNat q)) (
   .need (0 + Int.toNat i < List.length ts) (
   .need (i64ok (n + 1)) (
   .need (i64ok (i + 1)) (
   .ret (.cut (cutAt Try.f22 6) ⟨tmG 52 [(0, .c (.ptr 0 0 0)), (5, .c (.int .i64 (n + 1))), (13, .c (.int .i64 (Int.ofNat (List.length l)))), (0, .c (.int .i64 (i + 1)))], [.blk [.int .i64 lo, .int .i64 hi, .int .i64 st, .own 1 (q), .int .i64 nw] 72, .own 1 (List.set ts (0 + Int.toNat i)   ((List.getD ts (0 + Int.toNat i) (cod 1).d).1, (List.getD ts (0 + Int.toNat i) (cod 1).d).2.1 - st,     (List.getD ts (0 + Int.toNat i) (cod 1).d).2.2)) 57]⟩)))))) (
   .need (i64ok (i - 1)) (
   .need (((0 : Int) ≤ i - 1 ∧ i - 1 < Int.ofNat q)) (
   .need (0 + Int.toNat (i - 1) < List.length ts) (
   cond (decide ((List.getD ts (0 + Int.toNat (i - 1)) (cod 1).d).2.1 < (List.getD ts (0 + Int.toNat i) (cod 1).d).2.1 - st)) (
    .need (((0 : Int) ≤ i ∧ i < Int.ofNat q)) (
    .need (0 + Int.toNat i < List.length ts) (
    .need (i64ok (n + 1)) (
    .need (i64ok (i + 1)) (
    .ret (.cut (cutAt Try.f22 6) ⟨tmG 52 [(0, .c (.ptr 0 0 0)), (5, .c (.int .i64 (n + 1))), (13, .c (.int .i64 (Int.ofNat (List.length l)))), (0, .c (.int .i64 (i + 1)))], [.blk [.int .i64 lo, .int .i64 hi, .int .i64 st, .own 1 (q), .int .i64 nw] 72, .own 1 (List.set ts (0 + Int.toNat i)   ((List.getD ts (0 + Int.toNat i) (cod 1).d).1, (List.getD ts (0 + Int.toNat i) (cod 1).d).2.1 - st,     (List.getD ts (0 + Int.toNat i) (cod 1).d).2.2)) 57]⟩)))))) (
    .need (i64ok (i + 1)) (
    .ret (.cut (cutAt Try.f22 6) ⟨tmG 52 [(0, .c (.ptr 0 0 0)), (5, .c (.int .i64 n)), (13, .c (.int .i64 (Int.ofNat (List.length l)))), (0, .c (.int .i64 (i + 1)))], [.blk [.int .i64 lo, .int .i64 hi, .int .i64 st, .own 1 (q), .int .i64 nw] 72, .own 1 ts 57]⟩)))))))) (
  .need (i64ok (i + 1)) (
  .ret (.cut (cutAt Try.f22 6) ⟨tmG 52 [(0, .c (.ptr 0 0 0)), (5, .c (.int .i64 n)), (13, .c (.int .i64 (Int.ofNat (List.length l)))), (0, .c (.int .i64 (i + 1)))], [.blk [.int .i64 lo, .int .i64 hi, .int .i64 st, .own 1 (q), .int .i64 nw] 72, .own 1 ts 57]⟩))))))) (
 .ret (.fin (.tup [.c (.int .i64 n), .c (.int .i64 0)]) [.blk [.int .i64 lo, .int .i64 hi, .int .i64 st, .own 1 (q), .int .i64 nw] 72, .own 1 ts 57])) := by kernel_rfl



theorem hdown_run (lo hi st : Int) (l : List (List UInt8 × Int × Int)) (now : Int) (t : Int) (b0 : Base) (hb : b0.n = 2) (h0 : F.hok l) (h1 : 0 ≤ st ∧ st ≤ 100000) (h2 : 0 ≤ lo) : Sym.Runs Try.prog b0 [.code (codeOf Try.f22)] ⟨argsS Try.f22 [.c (.ptr 0 0 0), .c (.int .i64 t)], ([.blk [.int .i64 lo, .int .i64 hi, .int .i64 st, .own 1 (List.length l), .int .i64 now] 72, .own 1 l 57] : Heap cod)⟩ (Sym.EndsI Try.prog Try.f22 ([.blk [.int .i64 lo, .int .i64 hi, .int .i64 st, .own 1 (List.length l), .int .i64 now] 72, .own 1 l 57] : Heap cod) (.tup [.c (.int .i64 (F.downN lo st l now t)), .c (.int .i64 (F.downE now t))]) [.blk [.int .i64 lo, .int .i64 hi, .int .i64 st, .own 1 (List.length (F.downL lo st l now t)), .int .i64 (F.downT now t)] 72, .own 1 (F.downL lo st l now t) 57]) := by
  have hlen := h0.1
  have d0 : (cod 1).d = F.hl0 := rfl
  have key : F.wrn now t = false → ∀ (m i : Nat) (ts : List F.HL) (n : Int), i + m = l.length → ts.length = l.length → F.dnG lo st m i ts n = F.dnG lo st l.length 0 l 0 → 0 ≤ n → n ≤ i → (∀ x ∈ ts, 0 ≤ x.2.1 ∧ x.2.1 ≤ 1000000) →
      Sym.Runs Try.prog b0 (cutAt Try.f22 6) (st_hdown_6 lo hi st l now t ts ts.length t n (i : Int)) (Sym.EndsI Try.prog Try.f22 ([.blk [.int .i64 lo, .int .i64 hi, .int .i64 st, .own 1 (List.length l), .int .i64 now] 72, .own 1 l 57] : Heap cod) (.tup [.c (.int .i64 (F.downN lo st l now t)), .c (.int .i64 (F.downE now t))]) [.blk [.int .i64 lo, .int .i64 hi, .int .i64 st, .own 1 (List.length (F.downL lo st l now t)), .int .i64 (F.downT now t)] 72, .own 1 (F.downL lo st l now t) 57]) := by
    intro hw m
    have e1 : F.downL lo st l now t = (F.dnG lo st l.length 0 l 0).1 := by unfold F.downL; rw [hw]; rfl
    have e2 : F.downN lo st l now t = (F.dnG lo st l.length 0 l 0).2 := by unfold F.downN; rw [hw]; rfl
    have e3 : F.downE now t = 0 := by unfold F.downE; rw [hw]; rfl
    have e4 : F.downT now t = t := by unfold F.downT; rw [hw]; rfl
    rw [e1, e2, e3, e4]
    induction m with
    | zero =>
      intro i ts n hi' hts hR hn0 hn hb1
      refine Runs.goI (cfg := C_hent) L_hent_ok mixed cuts_hdown 400 (H := ([.blk [.int .i64 lo, .int .i64 hi, .int .i64 st, .own 1 (List.length l), .int .i64 now] 72, .own 1 l 57] : Heap cod)) hb (hdown_t6 lo hi st l now t ts ts.length t n (i : Int)) ?_
      rw [← hR]
      simp only [T.wp, T.wp_cond, Aft, Int.ofNat_eq_natCast, decide_eq_true_eq, and_true, true_and, Nat.zero_add, Bool.not_eq_true', decide_eq_false_iff_not]
      exact ite_no (by omega) ⟨rfl, rfl⟩
    | succ m ih =>
      intro i ts n hi' hts hR hn0 hn hb1
      refine Runs.goI (cfg := C_hent) L_hent_ok mixed cuts_hdown 400 (H := ([.blk [.int .i64 lo, .int .i64 hi, .int .i64 st, .own 1 (List.length l), .int .i64 now] 72, .own 1 l 57] : Heap cod)) hb (hdown_t6 lo hi st l now t ts ts.length t n (i : Int)) ?_
      have hlt : i < ts.length := by omega
      have hmem : ∀ k, k < ts.length → ts.getD k F.hl0 ∈ ts := fun k hk => by
        rw [List.getD_eq_getElem?_getD, List.getElem?_eq_getElem hk]
        exact List.getElem_mem _
      have hx := hb1 _ (hmem i hlt)
      have i1 : Sym.i64ok ((i : Int) + 1) := by unfold Sym.i64ok; omega
      have n1 : Sym.i64ok (n + 1) := by unfold Sym.i64ok; omega
      have go1 := ih (i + 1) ts n (by omega) hts
      have go2 := ih (i + 1) (ts.set i (F.lower st (ts.getD i F.hl0))) (n + 1) (by omega) (by rw [List.length_set]; exact hts)
      rw [List.length_set] at go2
      have b2 : lo ≤ (ts.getD i F.hl0).2.1 - st → ∀ x ∈ ts.set i (F.lower st (ts.getD i F.hl0)), 0 ≤ x.2.1 ∧ x.2.1 ≤ 1000000 := fun hlo x hx' => by
        rcases List.mem_or_eq_of_mem_set hx' with q | rfl
        · exact hb1 x q
        · exact ⟨by show 0 ≤ (ts.getD i F.hl0).2.1 - st; omega, by show (ts.getD i F.hl0).2.1 - st ≤ 1000000; omega⟩
      have hu : F.dnG lo st (m + 1) i ts n = if F.dnS lo st ts i then F.dnG lo st m (i + 1) (ts.set i (F.lower st (ts.getD i F.hl0))) (n + 1) else F.dnG lo st m (i + 1) ts n := rfl
      rw [hu] at hR
      simp only [T.wp, T.wp_cond, Aft, Int.ofNat_eq_natCast, decide_eq_true_eq, and_true, true_and, Nat.zero_add, Bool.not_eq_true', decide_eq_false_iff_not, Nat.zero_add, Int.toNat_natCast, d0]
      refine ite_yes (by omega) ⟨⟨by omega, by omega⟩, hlt, by unfold Sym.i64ok; omega, ?_⟩
      by_cases c1 : lo ≤ (ts.getD i F.hl0).2.1 - st
      · refine ite_yes c1 ?_
        by_cases c2 : i = 0
        · have hd : F.dnS lo st ts i = true := by unfold F.dnS; simp [c1, c2] at *; exact c1
          rw [if_pos hd] at hR
          exact ite_yes (by omega) ⟨⟨by omega, by omega⟩, hlt, n1, i1, go2 hR (by omega) (by omega) (b2 c1)⟩
        · have ei : Int.toNat ((i : Int) - 1) = i - 1 := by omega
          rw [ei]
          refine ite_no (by omega) ⟨by unfold Sym.i64ok; omega, ⟨by omega, by omega⟩, by omega, ?_⟩
          by_cases c3 : (ts.getD (i - 1) F.hl0).2.1 < (ts.getD i F.hl0).2.1 - st
          · have hd : F.dnS lo st ts i = true := by unfold F.dnS; rw [decide_eq_true c1, decide_eq_true c3]; simp
            rw [if_pos hd] at hR
            exact ite_yes c3 ⟨⟨by omega, by omega⟩, hlt, n1, i1, go2 hR (by omega) (by omega) (b2 c1)⟩
          · have hd : ¬ F.dnS lo st ts i = true := by unfold F.dnS; rw [decide_eq_true c1, decide_eq_false c3, decide_eq_false c2]; simp
            rw [if_neg hd] at hR
            exact ite_no c3 ⟨i1, go1 hR hn0 (by omega) hb1⟩
      · have hd : ¬ F.dnS lo st ts i = true := by unfold F.dnS; rw [decide_eq_false c1]; simp
        rw [if_neg hd] at hR
        exact ite_no c1 ⟨i1, go1 hR hn0 (by omega) hb1⟩
  refine Runs.goI (cfg := C_hent) L_hent_ok mixed cuts_hdown 400 (H := ([.blk [.int .i64 lo, .int .i64 hi, .int .i64 st, .own 1 (List.length l), .int .i64 now] 72, .own 1 l 57] : Heap cod)) hb (hdown_t0 lo hi st l now t) ?_
  simp only [T.wp, T.wp_cond, Aft, Int.ofNat_eq_natCast, decide_eq_true_eq, and_true, true_and, Nat.zero_add, Bool.not_eq_true', decide_eq_false_iff_not]
  cases hw : F.wrn now t with
  | true =>
    have e1 : F.downL lo st l now t = l := by unfold F.downL; rw [hw]; rfl
    have e2 : F.downN lo st l now t = 0 := by unfold F.downN; rw [hw]; rfl
    have e3 : F.downE now t = 12 := by unfold F.downE; rw [hw]; rfl
    have e4 : F.downT now t = now := by unfold F.downT; rw [hw]; rfl
    rw [e1, e2, e3, e4]
    exact ite_yes rfl ⟨rfl, rfl⟩
  | false => exact ite_no (by decide) (key hw l.length 0 l 0 (by omega) rfl rfl (by omega) (by omega) (fun x hx => (h0.2 x hx).1))



noncomputable def s_hdown : Summ cod := fun args H => match args, H with
  | [.c (.ptr 0 0 0), .c (.int .i64 t)], [.blk [.int .i64 lo, .int .i64 hi, .int .i64 st, .own 1 q, .int .i64 now] 72, o1] => (match o1.asOwn 1 57 with | some l => .need ((.blk [.int .i64 lo, .int .i64 hi, .int .i64 st, .own 1 q, .int .i64 now] 72 : HObj cod) = .blk [.int .i64 lo, .int .i64 hi, .int .i64 st, .own 1 (List.length l), .int .i64 now] 72) (.need ((F.hok l) ∧ (0 ≤ st ∧ st ≤ 100000) ∧ (0 ≤ lo)) (.ret (.tup [.c (.int .i64 (F.downN lo st l now t)), .c (.int .i64 (F.downE now t))], [.blk [.int .i64 lo, .int .i64 hi, .int .i64 st, .own 1 (List.length (F.downL lo st l now t)), .int .i64 (F.downT now t)] 72, .own 1 (F.downL lo st l now t) 57]))) | none => .fail)
  | _, _ => .fail


theorem hdown_sound : SoundI Try.prog cod 22 s_hdown := tree_soundI (cfg := C_hent) Try.func22 rfl rfl _ fun args H r H' hg b0 hb => by
  unfold s_hdown at hg
  split at hg
  · skip
    split at hg
    · rename_i l hx1
      cases asOwn_spec hx1
      obtain ⟨ot0, hg⟩ := hg
      cases ot0
      obtain ⟨hq, hg⟩ := hg
      obtain ⟨q0, q1, q2⟩ := hq
      cases hg
      exact hdown_run _ _ _ _ _ _ b0 hb (by assumption) (by assumption) (by assumption)
    · exact hg.elim
  · exact hg.elim

noncomputable def L_hdown : Sums cod := (22, .i s_hdown) :: L_hent
noncomputable def C_hdown : Cfg cod := mkC L_hdown

theorem L_hdown_ok : Snd Try.prog cod L_hdown := .consI hdown_sound L_hent_ok



def cuts_hlea : Cuts := []

theorem hlea_t0 (lo hi st : Int) (l : List (List UInt8 × Int × Int)) (now : Int) (c : List UInt8) (t : Int) : symI C_hdown cuts_hlea Try.f24.results.toList ([.blk [.int .i64 lo, .int .i64 hi, .int .i64 st, .own 1 (List.length l), .int .i64 now] 72, .own 1 l 57] : Heap cod) 400 [.code (codeOf Try.f24)] ⟨argsS Try.f24 [.c (.ptr 0 0 0), .c (.str c), .c (.int .i64 t)], ([.blk [.int .i64 lo, .int .i64 hi, .int .i64 st, .own 1 (List.length l), .int .i64 now] 72, .own 1 l 57] : Heap cod)⟩ =
.need (((0 = 0 ∧ List.length l = List.length l) ∧ List.length l ≤ 100000)) (
 cond (decide (F.ixc l c < 0)) (
 .ret (.fin (.tup [.c (.int .i64 0), .c (.int .i64 8)]) [.blk [.int .i64 lo, .int .i64 hi, .int .i64 st, .own 1 (List.length l), .int .i64 now] 72, .own 1 l 57])) (
 .need ((0 = 0 ∧ List.length l = List.length l)) (
 cond (F.wrn now t) (
  .ret (.fin (.tup [.c (.int .i64 0), .c (.int .i64 12)]) [.blk [.int .i64 lo, .int .i64 hi, .int .i64 st, .own 1 (List.length l), .int .i64 now] 72, .own 1 l 57])) (
  cond (decide (0 < F.ixc l c)) (
   .ret (.fin (.tup [.c (.int .i64 0), .c (.int .i64 11)]) [.blk [.int .i64 lo, .int .i64 hi, .int .i64 st, .own 1 (List.length l), .int .i64 now] 72, .own 1 l 57])) (
   .need (((0 : Int) ≤ 0 ∧ (0 : Int) < Int.ofNat (List.length l))) (
   .need ((0 + Int.toNat 0 : Nat) < List.length l) (
   .need (i64ok (t - (List.getD l (0 + Int.toNat 0) (cod 1).d).2.2)) (
   .need (((0 : Int) ≤ 0 ∧ ((0 : Int) < Int.ofNat (List.length l) ∧ (1 : Int) = 0 + 1))) (
   .ret (.fin (.tup [.c (.int .i64 (t - (List.getD l (0 + Int.toNat 0) (cod 1).d).2.2)), .c (.int .i64 0)]) [.blk [.int .i64 lo, .int .i64 hi, .int .i64 st, .own 1 (List.length l - 1), .int .i64 t] 72, .own 1 (List.eraseIdx l (Int.toNat 0)) 57])))))))))) := by kernel_rfl



theorem hlea_run (lo hi st : Int) (l : List (List UInt8 × Int × Int)) (now : Int) (c : List UInt8) (t : Int) (b0 : Base) (hb : b0.n = 2) (h0 : F.hok l) (h1 : 0 ≤ now) : Sym.Runs Try.prog b0 [.code (codeOf Try.f24)] ⟨argsS Try.f24 [.c (.ptr 0 0 0), .c (.str c), .c (.int .i64 t)], ([.blk [.int .i64 lo, .int .i64 hi, .int .i64 st, .own 1 (List.length l), .int .i64 now] 72, .own 1 l 57] : Heap cod)⟩ (Sym.EndsI Try.prog Try.f24 ([.blk [.int .i64 lo, .int .i64 hi, .int .i64 st, .own 1 (List.length l), .int .i64 now] 72, .own 1 l 57] : Heap cod) (.tup [.c (.int .i64 (F.leaV l now c t)), .c (.int .i64 (F.leaE l now c t))]) [.blk [.int .i64 lo, .int .i64 hi, .int .i64 st, .own 1 (List.length (F.leaL l now c t)), .int .i64 (F.leaT l now c t)] 72, .own 1 (F.leaL l now c t) 57]) := by
  refine Runs.goI (cfg := C_hdown) L_hdown_ok mixed cuts_hlea 400 (H := ([.blk [.int .i64 lo, .int .i64 hi, .int .i64 st, .own 1 (List.length l), .int .i64 now] 72, .own 1 l 57] : Heap cod)) hb (hlea_t0 lo hi st l now c t) ?_
  have d0 : (cod 1).d = F.hl0 := rfl
  have hlen := h0.1
  have hnw : F.wrn now t = false → now ≤ t ∧ t ≤ 200000 := fun q => by
    unfold F.wrn at q
    simp only [Bool.or_eq_false_iff, decide_eq_false_iff_not] at q
    omega
  simp only [T.wp, T.wp_cond, Aft, Int.ofNat_eq_natCast, decide_eq_true_eq, and_true, true_and, Nat.zero_add, Bool.not_eq_true', decide_eq_false_iff_not, Nat.zero_add, Int.toNat_zero, d0]
  have bad : ∀ e : Int, e ≠ 0 → F.leaE l now c t = e → (SV.tup [.c (.int .i64 0), .c (.int .i64 e)] : SV) = .tup [.c (.int .i64 (F.leaV l now c t)), .c (.int .i64 (F.leaE l now c t))] ∧ ([.blk [.int .i64 lo, .int .i64 hi, .int .i64 st, .own 1 (List.length l), .int .i64 now] 72, .own 1 l 57] : Heap cod) = [.blk [.int .i64 lo, .int .i64 hi, .int .i64 st, .own 1 (List.length (F.leaL l now c t)), .int .i64 (F.leaT l now c t)] 72, .own 1 (F.leaL l now c t) 57] := by
    intro e he eE
    have e1 : F.leaL l now c t = l := by unfold F.leaL; rw [if_neg (by rw [eE]; exact he)]
    have e2 : F.leaV l now c t = 0 := by unfold F.leaV; rw [if_neg (by rw [eE]; exact he)]
    have e3 : F.leaT l now c t = now := by unfold F.leaT; rw [if_neg (by rw [eE]; exact he)]
    rw [eE, e1, e2, e3]
    exact ⟨rfl, rfl⟩
  refine ⟨by omega, ?_⟩
  by_cases c1 : F.ixc l c < 0
  · exact ite_yes c1 (bad 8 (by decide) (by unfold F.leaE; rw [if_pos c1]))
  refine ite_no c1 ?_
  cases c2 : F.wrn now t with
  | true => exact ite_yes rfl (bad 12 (by decide) (by unfold F.leaE; rw [if_neg c1, c2, if_pos rfl]))
  | false =>
  refine ite_no (by decide) ?_
  by_cases c3 : 0 < F.ixc l c
  · exact ite_yes c3 (bad 11 (by decide) (by unfold F.leaE; rw [if_neg c1, c2, if_neg (by decide), if_pos c3]))
  · have eE : F.leaE l now c t = 0 := by unfold F.leaE; rw [if_neg c1, c2, if_neg (by decide), if_neg c3]
    have e1 : F.leaL l now c t = l.eraseIdx 0 := by unfold F.leaL; rw [if_pos eE]
    have e2 : F.leaV l now c t = t - (l.getD 0 F.hl0).2.2 := by unfold F.leaV; rw [if_pos eE]
    have e3 : F.leaT l now c t = t := by unfold F.leaT; rw [if_pos eE]
    have hlt : 0 < l.length := ixc_pos (c := c) (by omega)
    have hm : l.getD 0 F.hl0 ∈ l := by
      rw [List.getD_eq_getElem?_getD, List.getElem?_eq_getElem hlt]
      exact List.getElem_mem _
    have hb1 := (h0.2 _ hm).2
    have htt := hnw c2
    rw [eE, e1, e2, e3, List.length_eraseIdx_of_lt hlt]
    exact ite_no c3 ⟨⟨by omega, by omega⟩, hlt, by unfold Sym.i64ok; omega, ⟨by omega, by omega⟩, rfl, rfl⟩



noncomputable def s_hlea : Summ cod := fun args H => match args, H with
  | [.c (.ptr 0 0 0), .c (.str c), .c (.int .i64 t)], [.blk [.int .i64 lo, .int .i64 hi, .int .i64 st, .own 1 q, .int .i64 now] 72, o1] => (match o1.asOwn 1 57 with | some l => .need ((.blk [.int .i64 lo, .int .i64 hi, .int .i64 st, .own 1 q, .int .i64 now] 72 : HObj cod) = .blk [.int .i64 lo, .int .i64 hi, .int .i64 st, .own 1 (List.length l), .int .i64 now] 72) (.need ((F.hok l) ∧ (0 ≤ now)) (.ret (.tup [.c (.int .i64 (F.leaV l now c t)), .c (.int .i64 (F.leaE l now c t))], [.blk [.int .i64 lo, .int .i64 hi, .int .i64 st, .own 1 (List.length (F.leaL l now c t)), .int .i64 (F.leaT l now c t)] 72, .own 1 (F.leaL l now c t) 57]))) | none => .fail)
  | _, _ => .fail


theorem hlea_sound : SoundI Try.prog cod 24 s_hlea := tree_soundI (cfg := C_hdown) Try.func24 rfl rfl _ fun args H r H' hg b0 hb => by
  unfold s_hlea at hg
  split at hg
  · skip
    split at hg
    · rename_i l hx1
      cases asOwn_spec hx1
      obtain ⟨ot0, hg⟩ := hg
      cases ot0
      obtain ⟨hq, hg⟩ := hg
      obtain ⟨q0, q1⟩ := hq
      cases hg
      exact hlea_run _ _ _ _ _ _ _ b0 hb (by assumption) (by assumption)
    · exact hg.elim
  · exact hg.elim

noncomputable def L_hlea : Sums cod := (24, .i s_hlea) :: L_hdown
noncomputable def C_hlea : Cfg cod := mkC L_hlea

theorem L_hlea_ok : Snd Try.prog cod L_hlea := .consI hlea_sound L_hdown_ok


end
end Go.Proofs.Ytgmnfdmlidhbcaa
