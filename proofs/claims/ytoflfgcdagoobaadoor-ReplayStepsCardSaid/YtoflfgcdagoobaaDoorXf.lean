/- Part of a claim: lemmas on the way to its theorem; each states its own conditions. -/
import Derived.Test.YtoflfgcdagoobaaDoorBd29
namespace Go.Proofs.YtoflfgcdagoobaaDoor
open Sym Go.RowKit
noncomputable section
set_option maxRecDepth 100000
set_option maxHeartbeats 4000000


noncomputable def L_cstr : Sums cod := (64, .p s_cstr) :: L_in
noncomputable def C_cstr : Cfg cod := mkC L_cstr

theorem L_cstr_ok : Snd Tryd.prog cod L_cstr := .cons cstr_sound L_in_ok



noncomputable def s_scmp : Summ cod := autoS C_cstr Tryd.f51 400


theorem scmp_sound : Sound Tryd.prog cod 51 s_scmp := auto_sound (cfg := C_cstr) L_cstr_ok mixed Tryd.func51 rfl rfl 400

noncomputable def L_scmp : Sums cod := (51, .p s_scmp) :: L_cstr
noncomputable def C_scmp : Cfg cod := mkC L_scmp

theorem L_scmp_ok : Snd Tryd.prog cod L_scmp := .cons scmp_sound L_cstr_ok



namespace F
def keyC (c : Int) : Bool := decide (97 ≤ c) && decide (c ≤ 122) || decide (48 ≤ c) && decide (c ≤ 57) || decide (c = 46)
def valC (c : Int) : Bool := decide (32 ≤ c) && decide (c ≤ 126)
def keyB (s : List UInt8) : Bool := s.all fun b => keyC b.toNat
def valB (s : List UInt8) : Bool := s.all fun b => valC b.toNat
def key (s : List UInt8) : Bool := keyB s && decide (1 ≤ s.length ∧ s.length ≤ 12)
def value (s : List UInt8) : Bool := valB s && decide (s.length ≤ 40)
end F


def cuts_key : Cuts := [(2, [6, 0, 7, 8], 1)]

theorem key_t0 (s : List UInt8) : symF C_scmp cuts_key Tryd.f30.results.toList 0 400 [.code (codeOf Tryd.f30)] ⟨argsS Tryd.f30 [.c (.str s)], ([] : Heap cod)⟩ =
.need (((∀ (n : Int), (cod 3).ok [Cell.int IntKind.u8 n] = true) ∧ List.length s ≤ 9223372036854775807)) (
.ret (.cut (cutAt Tryd.f30 2) ⟨tmG 31 [(0, .c (.str s)), (5, .c (.slc 0 0 (List.length s) false)), (0, .c (.int .i64 (Int.ofNat (List.length s)))), (0, .c (.int .i64 0))], [.inp 3 (List.map (fun b => Int.ofNat (UInt8.toNat b)) s)]⟩)) := by kernel_rfl


noncomputable def st_key_2 (s : List UInt8) (r : List Int) (i : Int) (n : Nat) : St cod := ⟨tmG 31 [(0, .c (.str s)), (5, .c (.slc 0 0 n false)), (0, .c (.int .i64 n)), (0, .c (.int .i64 i))], ([.inp 3 r] : Heap cod)⟩


theorem key_t2 (s : List UInt8) (r : List Int) (i : Int) (n : Nat) : symF C_scmp cuts_key Tryd.f30.results.toList 0 400 (cutAt Tryd.f30 2) (st_key_2 s r i n) =
 cond (decide (i < Int.ofNat n)) (
 .need (((0 : Int) ≤ i ∧ i < Int.ofNat n)) (
 .need (0 + Int.toNat i < List.length r) (
 cond (decide (97 ≤ List.getD r (0 + Int.toNat i) (cod 3).d)) (
  cond (decide (List.getD r (0 + Int.toNat i) (cod 3).d ≤ 122)) (
   .need (i64ok (i + 1)) (
   .ret (.cut (cutAt Tryd.f30 2) ⟨tmG 31 [(0, .c (.str s)), (5, .c (.slc 0 0 (n) false)), (0, .c (.int .i64 (Int.ofNat n))), (0, .c (.int .i64 (i + 1)))], [.inp 3 r]⟩))) (
   cond (decide (48 ≤ List.getD r (0 + Int.toNat i) (cod 3).d)) (
    cond (decide (List.getD r (0 + Int.toNat i) (cod 3).d ≤ 57)) (
     .need (i64ok (i + 1)) (
     .ret (.cut (cutAt Tryd.f30 2) ⟨tmG 31 [(0, .c (.str s)), (5, .c (.slc 0 0 (n) false)), (0, .c (.int .i64 (Int.ofNat n))), (0, .c (.int .i64 (i + 1)))], [.inp 3 r]⟩))) (
     cond (!decide (List.getD r (0 + Int.toNat i) (cod 3).d = 46)) (
      .ret (.fin (.c (.bool false)) [])) (
      .need (i64ok (i + 1)) (
      .ret (.cut (cutAt Tryd.f30 2) ⟨tmG 31 [(0, .c (.str s)), (5, .c (.slc 0 0 (n) false)), (0, .c (.int .i64 (Int.ofNat n))), (0, .c (.int .i64 (i + 1)))], [.inp 3 r]⟩))))) (
    cond (!decide (List.getD r (0 + Int.toNat i) (cod 3).d = 46)) (
     .ret (.fin (.c (.bool false)) [])) (
     .need (i64ok (i + 1)) (
     .ret (.cut (cutAt Tryd.f30 2) ⟨tmG 31 [(0, .c (.str s)), (5, .c (.slc 0 0 (n) false)), (0, .c (.int .i64 (Int.ofNat n))), (0, .c (.int .i64 (i + 1)))], [.inp 3 r]⟩)))))) (
  cond (decide (48 ≤ List.getD r (0 + Int.toNat i) (cod 3).d)) (
   cond (decide (List.getD r (0 + Int.toNat i) (cod 3).d ≤ 57)) (
    .need (i64ok (i + 1)) (
    .ret (.cut (cutAt Tryd.f30 2) ⟨tmG 31 [(0, .c (.str s)), (5, .c (.slc 0 0 (n) false)), (0, .c (.int .i64 (Int.ofNat n))), (0, .c (.int .i64 (i + 1)))], [.inp 3 r]⟩))) (
    cond (!decide (List.getD r (0 + Int.toNat i) (cod 3).d = 46)) (
     .ret (.fin (.c (.bool false)) [])) (
     .need (i64ok (i + 1)) (
     .ret (.cut (cutAt Tryd.f30 2) ⟨tmG 31 [(0, .c (.str s)), (5, .c (.slc 0 0 (n) false)), (0, .c (.int .i64 (Int.ofNat n))), (0, .c (.int .i64 (i + 1)))], [.inp 3 r]⟩))))) (
   cond (!decide (List.getD r (0 + Int.toNat i) (cod 3).d = 46)) (
    .ret (.fin (.c (.bool false)) [])) (
    .need (i64ok (i + 1)) (
    .ret (.cut (cutAt Tryd.f30 2) ⟨tmG 31 [(0, .c (.str s)), (5, .c (.slc 0 0 (n) false)), (0, .c (.int .i64 (Int.ofNat n))), (0, .c (.int .i64 (i + 1)))], [.inp 3 r]⟩)))))))) (
 cond (decide (1 ≤ Int.ofNat (List.length s))) (
  .ret (.fin (.c (.bool (decide (Int.ofNat (List.length s) ≤ 12)))) [])) (
  .ret (.fin (.c (.bool false)) []))) := by kernel_rfl



theorem key_run (s : List UInt8) (b0 : Base) (hb : b0.n = 0) (h0 : s.length ≤ 1000000000000000) : Sym.Runs Tryd.prog b0 [.code (codeOf Tryd.f30)] ⟨argsS Tryd.f30 [.c (.str s)], ([] : Heap cod)⟩ (Sym.Ends Tryd.prog Tryd.f30 0 (.c (.bool (F.key s))) []) := by
  have hr0 : ∃ r : List Int, (s.map fun b => Int.ofNat b.toNat) = r ∧ r.length = s.length ∧ F.keyB s = r.all F.keyC :=
    ⟨_, rfl, List.length_map .., by rw [List.all_map]; rfl⟩
  obtain ⟨r, hr, hlen, hall⟩ := hr0
  have key : ∀ (m : Nat) (i : Int), 0 ≤ i → i + m = r.length → F.keyB s = (r.drop i.toNat).all F.keyC →
      Sym.Runs Tryd.prog b0 (cutAt Tryd.f30 2) (st_key_2 s r i s.length) (Sym.Ends Tryd.prog Tryd.f30 0 (.c (.bool (F.key s))) []) := by
    intro m
    induction m with
    | zero =>
      intro i hi hm hl
      refine Runs.go (cfg := C_scmp) L_scmp_ok mixed cuts_key 400 hb (key_t2 s r i s.length) ?_
      have h1 : ¬ i < (s.length : Int) := by omega
      rw [drop_end r (by omega)] at hl
      simp only [T.wp, T.wp_cond, Aft, Int.ofNat_eq_natCast, decide_eq_true_eq, and_true, true_and, Nat.zero_add, Bool.not_eq_true', decide_eq_false_iff_not]
      refine ite_no h1 ?_
      have e : F.key s = decide (1 ≤ s.length ∧ s.length ≤ 12) := by unfold F.key; rw [hl]; simp
      rw [e]
      by_cases c1 : (1 : Int) ≤ (s.length : Int)
      · refine ite_yes c1 ?_
        congr 2
        rw [decide_eq_decide]
        omega
      · refine ite_no c1 ?_
        rw [decide_eq_false (by omega)]
    | succ m ih =>
      intro i hi hm hl
      refine Runs.go (cfg := C_scmp) L_scmp_ok mixed cuts_key 400 hb (key_t2 s r i s.length) ?_
      have h1 : i < (s.length : Int) := by omega
      rw [drop_at r (0 : Int) hi (by omega), List.all_cons] at hl
      have nx := ih (i + 1) (by omega) (by omega)
      have hi1 : i64ok (i + 1) := by unfold i64ok; omega
      have e0 : ∀ k, List.getD r k (cod 3).d = List.getD r k (0 : Int) := fun _ => rfl
      simp only [T.wp, T.wp_cond, Aft, Int.ofNat_eq_natCast, decide_eq_true_eq, and_true, true_and, Nat.zero_add, Bool.not_eq_true', decide_eq_false_iff_not, e0]
      generalize List.getD r i.toNat (0 : Int) = c at *
      have yes : F.keyC c = true → F.keyB s = (r.drop (i + 1).toNat).all F.keyC := fun h => by rw [hl, h, Bool.true_and]
      have no : F.keyC c = false → SV.c (.bool false) = SV.c (.bool (F.key s)) := fun h => by unfold F.key; rw [hl, h]; rfl
      refine ite_yes h1 ⟨⟨hi, h1⟩, by omega, ?_⟩
      repeat' split
      all_goals first
        | exact ⟨hi1, nx (yes (by simp only [F.keyC, Bool.or_eq_true, Bool.and_eq_true, decide_eq_true_eq]; omega))⟩
        | exact no (by simp only [F.keyC, Bool.or_eq_false_iff, Bool.and_eq_false_iff, decide_eq_false_iff_not]; omega)
  refine Runs.go (cfg := C_scmp) L_scmp_ok mixed cuts_key 400 hb (key_t0 s) ?_
  simp only [T.wp, T.wp_cond, Aft, Int.ofNat_eq_natCast, decide_eq_true_eq, and_true, true_and, Nat.zero_add, Bool.not_eq_true', decide_eq_false_iff_not]
  subst hr
  exact ⟨⟨fun _ => rfl, by omega⟩, key s.length 0 (by omega) (by omega) (by simpa using hall)⟩



noncomputable def s_key : Summ cod := fun args H => match args, H with
  | [.c (.str s)], [] => .need ((s.length ≤ 1000000000000000)) (.ret (.c (.bool (F.key s)), []))
  | _, _ => .fail


theorem key_sound : Sound Tryd.prog cod 30 s_key := sound_runs (cfg := C_scmp) L_scmp_ok mixed Tryd.func30 rfl rfl _ fun args H r news hg b0 hb => by
  unfold s_key at hg
  split at hg
  · skip
    simp only [T.gives, T.wp, Prod.mk.injEq] at hg
    obtain ⟨q0, rfl, rfl⟩ := hg
    exact key_run _ b0 hb (by assumption)
  · exact hg.elim

noncomputable def L_key : Sums cod := (30, .p s_key) :: L_scmp
noncomputable def C_key : Cfg cod := mkC L_key

theorem L_key_ok : Snd Tryd.prog cod L_key := .cons key_sound L_scmp_ok



def cuts_isval : Cuts := [(2, [6, 0, 7, 8], 1)]

theorem isval_t0 (s : List UInt8) : symF C_key cuts_isval Tryd.f31.results.toList 0 400 [.code (codeOf Tryd.f31)] ⟨argsS Tryd.f31 [.c (.str s)], ([] : Heap cod)⟩ =
.need (((∀ (n : Int), (cod 3).ok [Cell.int IntKind.u8 n] = true) ∧ List.length s ≤ 9223372036854775807)) (
.ret (.cut (cutAt Tryd.f31 2) ⟨tmG 13 [(0, .c (.str s)), (5, .c (.slc 0 0 (List.length s) false)), (0, .c (.int .i64 (Int.ofNat (List.length s)))), (0, .c (.int .i64 0))], [.inp 3 (List.map (fun b => Int.ofNat (UInt8.toNat b)) s)]⟩)) := by kernel_rfl


noncomputable def st_isval_2 (s : List UInt8) (r : List Int) (i : Int) (n : Nat) : St cod := ⟨tmG 13 [(0, .c (.str s)), (5, .c (.slc 0 0 n false)), (0, .c (.int .i64 n)), (0, .c (.int .i64 i))], ([.inp 3 r] : Heap cod)⟩


theorem isval_t2 (s : List UInt8) (r : List Int) (i : Int) (n : Nat) : symF C_key cuts_isval Tryd.f31.results.toList 0 400 (cutAt Tryd.f31 2) (st_isval_2 s r i n) =
 cond (decide (i < Int.ofNat n)) (
 .need (((0 : Int) ≤ i ∧ i < Int.ofNat n)) (
 .need (0 + Int.toNat i < List.length r) (
 cond (decide (List.getD r (0 + Int.toNat i) (cod 3).d < 32)) (
  .ret (.fin (.c (.bool false)) [])) (
  cond (decide (126 < List.getD r (0 + Int.toNat i) (cod 3).d)) (
   .ret (.fin (.c (.bool false)) [])) (
   .need (i64ok (i + 1)) (
   .ret (.cut (cutAt Tryd.f31 2) ⟨tmG 13 [(0, .c (.str s)), (5, .c (.slc 0 0 (n) false)), (0, .c (.int .i64 (Int.ofNat n))), (0, .c (.int .i64 (i + 1)))], [.inp 3 r]⟩))))))) (
 .ret (.fin (.c (.bool (decide (Int.ofNat (List.length s) ≤ 40)))) [])) := by kernel_rfl



theorem isval_run (s : List UInt8) (b0 : Base) (hb : b0.n = 0) (h0 : s.length ≤ 1000000000000000) : Sym.Runs Tryd.prog b0 [.code (codeOf Tryd.f31)] ⟨argsS Tryd.f31 [.c (.str s)], ([] : Heap cod)⟩ (Sym.Ends Tryd.prog Tryd.f31 0 (.c (.bool (F.value s))) []) := by
  have hr0 : ∃ r : List Int, (s.map fun b => Int.ofNat b.toNat) = r ∧ r.length = s.length ∧ F.valB s = r.all F.valC :=
    ⟨_, rfl, List.length_map .., by rw [List.all_map]; rfl⟩
  obtain ⟨r, hr, hlen, hall⟩ := hr0
  have key : ∀ (m : Nat) (i : Int), 0 ≤ i → i + m = r.length → F.valB s = (r.drop i.toNat).all F.valC →
      Sym.Runs Tryd.prog b0 (cutAt Tryd.f31 2) (st_isval_2 s r i s.length) (Sym.Ends Tryd.prog Tryd.f31 0 (.c (.bool (F.value s))) []) := by
    intro m
    induction m with
    | zero =>
      intro i hi hm hl
      refine Runs.go (cfg := C_key) L_key_ok mixed cuts_isval 400 hb (isval_t2 s r i s.length) ?_
      have h1 : ¬ i < (s.length : Int) := by omega
      rw [drop_end r (by omega)] at hl
      simp only [T.wp, T.wp_cond, Aft, Int.ofNat_eq_natCast, decide_eq_true_eq, and_true, true_and, Nat.zero_add, Bool.not_eq_true', decide_eq_false_iff_not]
      refine ite_no h1 ?_
      have e : F.value s = decide (s.length ≤ 40) := by unfold F.value; rw [hl]; simp
      rw [e]
      congr 2
      rw [decide_eq_decide]
      omega
    | succ m ih =>
      intro i hi hm hl
      refine Runs.go (cfg := C_key) L_key_ok mixed cuts_isval 400 hb (isval_t2 s r i s.length) ?_
      have h1 : i < (s.length : Int) := by omega
      rw [drop_at r (0 : Int) hi (by omega), List.all_cons] at hl
      have nx := ih (i + 1) (by omega) (by omega)
      have hi1 : i64ok (i + 1) := by unfold i64ok; omega
      have e0 : ∀ k, List.getD r k (cod 3).d = List.getD r k (0 : Int) := fun _ => rfl
      simp only [T.wp, T.wp_cond, Aft, Int.ofNat_eq_natCast, decide_eq_true_eq, and_true, true_and, Nat.zero_add, Bool.not_eq_true', decide_eq_false_iff_not, e0]
      generalize List.getD r i.toNat (0 : Int) = c at *
      have yes : F.valC c = true → F.valB s = (r.drop (i + 1).toNat).all F.valC := fun h => by rw [hl, h, Bool.true_and]
      have no : F.valC c = false → SV.c (.bool false) = SV.c (.bool (F.value s)) := fun h => by unfold F.value; rw [hl, h]; rfl
      refine ite_yes h1 ⟨⟨hi, h1⟩, by omega, ?_⟩
      repeat' split
      all_goals first
        | exact ⟨hi1, nx (yes (by simp only [F.valC, Bool.or_eq_true, Bool.and_eq_true, decide_eq_true_eq]; omega))⟩
        | exact no (by simp only [F.valC, Bool.or_eq_false_iff, Bool.and_eq_false_iff, decide_eq_false_iff_not]; omega)
  refine Runs.go (cfg := C_key) L_key_ok mixed cuts_isval 400 hb (isval_t0 s) ?_
  simp only [T.wp, T.wp_cond, Aft, Int.ofNat_eq_natCast, decide_eq_true_eq, and_true, true_and, Nat.zero_add, Bool.not_eq_true', decide_eq_false_iff_not]
  subst hr
  exact ⟨⟨fun _ => rfl, by omega⟩, key s.length 0 (by omega) (by omega) (by simpa using hall)⟩



noncomputable def s_isval : Summ cod := fun args H => match args, H with
  | [.c (.str s)], [] => .need ((s.length ≤ 1000000000000000)) (.ret (.c (.bool (F.value s)), []))
  | _, _ => .fail


theorem isval_sound : Sound Tryd.prog cod 31 s_isval := sound_runs (cfg := C_key) L_key_ok mixed Tryd.func31 rfl rfl _ fun args H r news hg b0 hb => by
  unfold s_isval at hg
  split at hg
  · skip
    simp only [T.gives, T.wp, Prod.mk.injEq] at hg
    obtain ⟨q0, rfl, rfl⟩ := hg
    exact isval_run _ b0 hb (by assumption)
  · exact hg.elim

noncomputable def L_isval : Sums cod := (31, .p s_isval) :: L_key
noncomputable def C_isval : Cfg cod := mkC L_isval

theorem L_isval_ok : Snd Tryd.prog cod L_isval := .cons isval_sound L_key_ok



def cuts_keyed : Cuts := [(4, [0, 14, 15], 0)]

theorem keyed_t0 (s : List UInt8) : symF C_isval cuts_keyed Tryd.f14.results.toList 0 400 [.code (codeOf Tryd.f14)] ⟨argsS Tryd.f14 [.c (.str s)], ([] : Heap cod)⟩ =
 cond (decide (Int.ofNat (List.length s) < 1)) (
 .ret (.fin (.c (.bool false)) [])) (
 cond (decide (12 < Int.ofNat (List.length s))) (
  .ret (.fin (.c (.bool false)) [])) (
  .ret (.cut (cutAt Tryd.f14 4) ⟨tmG 26 [(0, .c (.str s)), (13, .c (.int .i64 (Int.ofNat (List.length s)))), (0, .c (.int .i64 0))], []⟩))) := by kernel_rfl


noncomputable def st_keyed_4 (s : List UInt8) (i : Int) : St cod := ⟨tmG 26 [(0, .c (.str s)), (13, .c (.int .i64 (Int.ofNat (List.length s)))), (0, .c (.int .i64 i))], []⟩


theorem keyed_t4 (s : List UInt8) (i : Int) : symF C_isval cuts_keyed Tryd.f14.results.toList 0 400 (cutAt Tryd.f14 4) (st_keyed_4 s i) =
 cond (decide (i < Int.ofNat (List.length s))) (
 .need (((0 : Int) ≤ i ∧ i < Int.ofNat (List.length s))) (
 cond (decide (97 ≤ Int.ofNat (UInt8.toNat (List.getD s (Int.toNat i) 0)))) (
  cond (!decide (Int.ofNat (UInt8.toNat (List.getD s (Int.toNat i) 0)) ≤ 122)) (
   cond (decide (48 ≤ Int.ofNat (UInt8.toNat (List.getD s (Int.toNat i) 0)))) (
    cond (!decide (Int.ofNat (UInt8.toNat (List.getD s (Int.toNat i) 0)) ≤ 57)) (
     cond (!decide (Int.ofNat (UInt8.toNat (List.getD s (Int.toNat i) 0)) = 46)) (
      .ret (.fin (.c (.bool false)) [])) (
      .need (i64ok (i + 1)) (
      .ret (.cut (cutAt Tryd.f14 4) ⟨tmG 26 [(0, .c (.str s)), (13, .c (.int .i64 (Int.ofNat (List.length s)))), (0, .c (.int .i64 (i + 1)))], []⟩)))) (
     .need (i64ok (i + 1)) (
     .ret (.cut (cutAt Tryd.f14 4) ⟨tmG 26 [(0, .c (.str s)), (13, .c (.int .i64 (Int.ofNat (List.length s)))), (0, .c (.int .i64 (i + 1)))], []⟩)))) (
    cond (!decide (Int.ofNat (UInt8.toNat (List.getD s (Int.toNat i) 0)) = 46)) (
     .ret (.fin (.c (.bool false)) [])) (
     .need (i64ok (i + 1)) (
     .ret (.cut (cutAt Tryd.f14 4) ⟨tmG 26 [(0, .c (.str s)), (13, .c (.int .i64 (Int.ofNat (List.length s)))), (0, .c (.int .i64 (i + 1)))], []⟩))))) (
   .need (i64ok (i + 1)) (
   .ret (.cut (cutAt Tryd.f14 4) ⟨tmG 26 [(0, .c (.str s)), (13, .c (.int .i64 (Int.ofNat (List.length s)))), (0, .c (.int .i64 (i + 1)))], []⟩)))) (
  cond (decide (48 ≤ Int.ofNat (UInt8.toNat (List.getD s (Int.toNat i) 0)))) (
   cond (!decide (Int.ofNat (UInt8.toNat (List.getD s (Int.toNat i) 0)) ≤ 57)) (
    cond (!decide (Int.ofNat (UInt8.toNat (List.getD s (Int.toNat i) 0)) = 46)) (
     .ret (.fin (.c (.bool false)) [])) (
     .need (i64ok (i + 1)) (
     .ret (.cut (cutAt Tryd.f14 4) ⟨tmG 26 [(0, .c (.str s)), (13, .c (.int .i64 (Int.ofNat (List.length s)))), (0, .c (.int .i64 (i + 1)))], []⟩)))) (
    .need (i64ok (i + 1)) (
    .ret (.cut (cutAt Tryd.f14 4) ⟨tmG 26 [(0, .c (.str s)), (13, .c (.int .i64 (Int.ofNat (List.length s)))), (0, .c (.int .i64 (i + 1)))], []⟩)))) (
   cond (!decide (Int.ofNat (UInt8.toNat (List.getD s (Int.toNat i) 0)) = 46)) (
    .ret (.fin (.c (.bool false)) [])) (
    .need (i64ok (i + 1)) (
    .ret (.cut (cutAt Tryd.f14 4) ⟨tmG 26 [(0, .c (.str s)), (13, .c (.int .i64 (Int.ofNat (List.length s)))), (0, .c (.int .i64 (i + 1)))], []⟩))))))) (
 .ret (.fin (.c (.bool true)) [])) := by kernel_rfl



theorem keyed_run (s : List UInt8) (b0 : Base) (hb : b0.n = 0) (h0 : s.length ≤ 1000000000000000) : Sym.Runs Tryd.prog b0 [.code (codeOf Tryd.f14)] ⟨argsS Tryd.f14 [.c (.str s)], ([] : Heap cod)⟩ (Sym.Ends Tryd.prog Tryd.f14 0 (.c (.bool (F.key s))) []) := by
  have key : ∀ (m : Nat) (i : Int), 0 ≤ i → i + m = s.length → s.length ≤ 12 ∧ 1 ≤ s.length → F.keyB s = (s.drop i.toNat).all (fun b => F.keyC b.toNat) →
      Sym.Runs Tryd.prog b0 (cutAt Tryd.f14 4) (st_keyed_4 s i) (Sym.Ends Tryd.prog Tryd.f14 0 (.c (.bool (F.key s))) []) := by
    intro m
    induction m with
    | zero =>
      intro i hi hm hbd hl
      refine Runs.go (cfg := C_isval) L_isval_ok mixed cuts_keyed 400 hb (keyed_t4 s i) ?_
      have h1 : ¬ i < (s.length : Int) := by omega
      rw [drop_end s h1] at hl
      simp only [T.wp, T.wp_cond, Aft, Int.ofNat_eq_natCast, decide_eq_true_eq, and_true, true_and, Nat.zero_add, Bool.not_eq_true', decide_eq_false_iff_not]
      refine ite_no h1 ?_
      have e : F.key s = true := by unfold F.key; rw [hl]; simp; omega
      rw [e]
    | succ m ih =>
      intro i hi hm hbd hl
      refine Runs.go (cfg := C_isval) L_isval_ok mixed cuts_keyed 400 hb (keyed_t4 s i) ?_
      have h1 : i < (s.length : Int) := by omega
      rw [drop_at s 0 hi h1, List.all_cons] at hl
      have nx := ih (i + 1) (by omega) (by omega) hbd
      have hi1 : i64ok (i + 1) := by unfold i64ok; omega
      simp only [T.wp, T.wp_cond, Aft, Int.ofNat_eq_natCast, decide_eq_true_eq, and_true, true_and, Nat.zero_add, Bool.not_eq_true', decide_eq_false_iff_not]
      generalize ((s.getD i.toNat 0).toNat : Int) = c at *
      have yes : F.keyC c = true → F.keyB s = (s.drop (i + 1).toNat).all (fun b => F.keyC b.toNat) := fun h => by rw [hl, h, Bool.true_and]
      have no : F.keyC c = false → SV.c (.bool false) = SV.c (.bool (F.key s)) := fun h => by unfold F.key; rw [hl, h]; rfl
      refine ite_yes h1 ⟨⟨hi, h1⟩, ?_⟩
      repeat' split
      all_goals first
        | exact ⟨hi1, nx (yes (by simp only [F.keyC, Bool.or_eq_true, Bool.and_eq_true, decide_eq_true_eq]; omega))⟩
        | exact no (by simp only [F.keyC, Bool.or_eq_false_iff, Bool.and_eq_false_iff, decide_eq_false_iff_not]; omega)
  refine Runs.go (cfg := C_isval) L_isval_ok mixed cuts_keyed 400 hb (keyed_t0 s) ?_
  simp only [T.wp, T.wp_cond, Aft, Int.ofNat_eq_natCast, decide_eq_true_eq, and_true, true_and, Nat.zero_add, Bool.not_eq_true', decide_eq_false_iff_not]
  by_cases c1 : (s.length : Int) < 1
  · refine ite_yes c1 ?_
    unfold F.key
    rw [decide_eq_false (p := 1 ≤ s.length ∧ s.length ≤ 12) (by omega), Bool.and_false]
  · refine ite_no c1 ?_
    by_cases c2 : 12 < (s.length : Int)
    · refine ite_yes c2 ?_
      unfold F.key
      rw [decide_eq_false (p := 1 ≤ s.length ∧ s.length ≤ 12) (by omega), Bool.and_false]
    · exact ite_no c2 (key s.length 0 (by omega) (by omega) ⟨by omega, by omega⟩ rfl)



noncomputable def s_keyed : Summ cod := fun args H => match args, H with
  | [.c (.str s)], [] => .need ((s.length ≤ 1000000000000000)) (.ret (.c (.bool (F.key s)), []))
  | _, _ => .fail


theorem keyed_sound : Sound Tryd.prog cod 14 s_keyed := sound_runs (cfg := C_isval) L_isval_ok mixed Tryd.func14 rfl rfl _ fun args H r news hg b0 hb => by
  unfold s_keyed at hg
  split at hg
  · skip
    simp only [T.gives, T.wp, Prod.mk.injEq] at hg
    obtain ⟨q0, rfl, rfl⟩ := hg
    exact keyed_run _ b0 hb (by assumption)
  · exact hg.elim

noncomputable def L_keyed : Sums cod := (14, .p s_keyed) :: L_isval
noncomputable def C_keyed : Cfg cod := mkC L_keyed

theorem L_keyed_ok : Snd Tryd.prog cod L_keyed := .cons keyed_sound L_isval_ok



def cuts_valued : Cuts := [(4, [0, 8, 9], 0)]

theorem valued_t0 (s : List UInt8) : symF C_keyed cuts_valued Tryd.f15.results.toList 0 400 [.code (codeOf Tryd.f15)] ⟨argsS Tryd.f15 [.c (.str s)], ([] : Heap cod)⟩ =
 cond (decide (40 < Int.ofNat (List.length s))) (
 .ret (.fin (.c (.bool false)) [])) (
 .ret (.cut (cutAt Tryd.f15 4) ⟨tmG 13 [(0, .c (.str s)), (7, .c (.int .i64 (Int.ofNat (List.length s)))), (0, .c (.int .i64 0))], []⟩)) := by kernel_rfl


noncomputable def st_valued_4 (s : List UInt8) (i : Int) : St cod := ⟨tmG 13 [(0, .c (.str s)), (7, .c (.int .i64 (Int.ofNat (List.length s)))), (0, .c (.int .i64 i))], []⟩


theorem valued_t4 (s : List UInt8) (i : Int) : symF C_keyed cuts_valued Tryd.f15.results.toList 0 400 (cutAt Tryd.f15 4) (st_valued_4 s i) =
 cond (decide (i < Int.ofNat (List.length s))) (
 .need (((0 : Int) ≤ i ∧ i < Int.ofNat (List.length s))) (
 cond (decide (Int.ofNat (UInt8.toNat (List.getD s (Int.toNat i) 0)) < 32)) (
  .ret (.fin (.c (.bool false)) [])) (
  .need (((0 : Int) ≤ i ∧ i < Int.ofNat (List.length s))) (
  cond (decide (126 < Int.ofNat (UInt8.toNat (List.getD s (Int.toNat i) 0)))) (
   .ret (.fin (.c (.bool false)) [])) (
   .need (i64ok (i + 1)) (
   .ret (.cut (cutAt Tryd.f15 4) ⟨tmG 13 [(0, .c (.str s)), (7, .c (.int .i64 (Int.ofNat (List.length s)))), (0, .c (.int .i64 (i + 1)))], []⟩))))))) (
 .ret (.fin (.c (.bool true)) [])) := by kernel_rfl



theorem valued_run (s : List UInt8) (b0 : Base) (hb : b0.n = 0) (h0 : s.length ≤ 1000000000000000) : Sym.Runs Tryd.prog b0 [.code (codeOf Tryd.f15)] ⟨argsS Tryd.f15 [.c (.str s)], ([] : Heap cod)⟩ (Sym.Ends Tryd.prog Tryd.f15 0 (.c (.bool (F.value s))) []) := by
  have key : ∀ (m : Nat) (i : Int), 0 ≤ i → i + m = s.length → s.length ≤ 40 → F.valB s = (s.drop i.toNat).all (fun b => F.valC b.toNat) →
      Sym.Runs Tryd.prog b0 (cutAt Tryd.f15 4) (st_valued_4 s i) (Sym.Ends Tryd.prog Tryd.f15 0 (.c (.bool (F.value s))) []) := by
    intro m
    induction m with
    | zero =>
      intro i hi hm hbd hl
      refine Runs.go (cfg := C_keyed) L_keyed_ok mixed cuts_valued 400 hb (valued_t4 s i) ?_
      have h1 : ¬ i < (s.length : Int) := by omega
      rw [drop_end s h1] at hl
      simp only [T.wp, T.wp_cond, Aft, Int.ofNat_eq_natCast, decide_eq_true_eq, and_true, true_and, Nat.zero_add, Bool.not_eq_true', decide_eq_false_iff_not]
      refine ite_no h1 ?_
      have e : F.value s = true := by unfold F.value; rw [hl]; simp; omega
      rw [e]
    | succ m ih =>
      intro i hi hm hbd hl
      refine Runs.go (cfg := C_keyed) L_keyed_ok mixed cuts_valued 400 hb (valued_t4 s i) ?_
      have h1 : i < (s.length : Int) := by omega
      rw [drop_at s 0 hi h1, List.all_cons] at hl
      have nx := ih (i + 1) (by omega) (by omega) hbd
      have hi1 : i64ok (i + 1) := by unfold i64ok; omega
      simp only [T.wp, T.wp_cond, Aft, Int.ofNat_eq_natCast, decide_eq_true_eq, and_true, true_and, Nat.zero_add, Bool.not_eq_true', decide_eq_false_iff_not]
      generalize ((s.getD i.toNat 0).toNat : Int) = c at *
      have yes : F.valC c = true → F.valB s = (s.drop (i + 1).toNat).all (fun b => F.valC b.toNat) := fun h => by rw [hl, h, Bool.true_and]
      have no : F.valC c = false → SV.c (.bool false) = SV.c (.bool (F.value s)) := fun h => by unfold F.value; rw [hl, h]; rfl
      refine ite_yes h1 ⟨⟨hi, h1⟩, ?_⟩
      repeat' split
      all_goals first
        | exact ⟨hi1, nx (yes (by simp only [F.valC, Bool.or_eq_true, Bool.and_eq_true, decide_eq_true_eq]; omega))⟩
        | exact no (by simp only [F.valC, Bool.or_eq_false_iff, Bool.and_eq_false_iff, decide_eq_false_iff_not]; omega)
        | skip
      all_goals first
        | exact ⟨⟨hi, h1⟩, no (by simp only [F.valC, Bool.and_eq_false_iff, decide_eq_false_iff_not]; omega)⟩
        | exact ⟨⟨hi, h1⟩, hi1, nx (yes (by simp only [F.valC, Bool.and_eq_true, decide_eq_true_eq]; omega))⟩
  refine Runs.go (cfg := C_keyed) L_keyed_ok mixed cuts_valued 400 hb (valued_t0 s) ?_
  simp only [T.wp, T.wp_cond, Aft, Int.ofNat_eq_natCast, decide_eq_true_eq, and_true, true_and, Nat.zero_add, Bool.not_eq_true', decide_eq_false_iff_not]
  by_cases c2 : 40 < (s.length : Int)
  · refine ite_yes c2 ?_
    unfold F.value
    rw [decide_eq_false (p := s.length ≤ 40) (by omega), Bool.and_false]
  · exact ite_no c2 (key s.length 0 (by omega) (by omega) (by omega) rfl)



noncomputable def s_valued : Summ cod := fun args H => match args, H with
  | [.c (.str s)], [] => .need ((s.length ≤ 1000000000000000)) (.ret (.c (.bool (F.value s)), []))
  | _, _ => .fail


theorem valued_sound : Sound Tryd.prog cod 15 s_valued := sound_runs (cfg := C_keyed) L_keyed_ok mixed Tryd.func15 rfl rfl _ fun args H r news hg b0 hb => by
  unfold s_valued at hg
  split at hg
  · skip
    simp only [T.gives, T.wp, Prod.mk.injEq] at hg
    obtain ⟨q0, rfl, rfl⟩ := hg
    exact valued_run _ b0 hb (by assumption)
  · exact hg.elim

noncomputable def L_valued : Sums cod := (15, .p s_valued) :: L_keyed
noncomputable def C_valued : Cfg cod := mkC L_valued

theorem L_valued_ok : Snd Tryd.prog cod L_valued := .cons valued_sound L_keyed_ok


end
end Go.Proofs.YtoflfgcdagoobaaDoor
