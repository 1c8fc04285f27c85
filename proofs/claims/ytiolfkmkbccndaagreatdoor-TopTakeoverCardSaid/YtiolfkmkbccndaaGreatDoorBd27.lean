/- Parts of the proof, one behind the other: Xe, Xf. -/
import Derived.Test.YtiolfkmkbccndaaGreatDoorBd23
import Derived.Test.YtiolfkmkbccndaaGreatDoorBd24
import Derived.Test.YtiolfkmkbccndaaGreatDoorBd26
import Derived.Lib.Bytealg
import Derived.WalkSpells
import Derived.WalkLawsBesides
import Derived.Handy
import Derived.Lib.Walk
import Derived.Test.YtiolfkmkbccndaaGreatDoorProg
section
/- Strings compared: the library's entry, and what strings.Compare comes to. -/
namespace Go.Proofs.YtiolfkmkbccndaaGreatDoor
open Go.ChangeShapes Go.WideShapes Go.ChangeAt Go.RowKit Sym
set_option maxRecDepth 100000
noncomputable section
def F.cmp (a b : List UInt8) : Int := if F.lt a b = true then -1 else if a = b then 0 else 1
theorem cmp_bytes : ∀ a b : List UInt8, Lib.compareBytes a b = F.cmp a b
  | [], [] => rfl
  | [], _ :: _ => rfl
  | _ :: _, [] => rfl
  | a :: xs, b :: bs => by
    rw [Lib.compareBytes]
    have e : F.lt (a :: xs) (b :: bs) = (decide (a < b) || ((a == b) && F.lt xs bs)) := rfl
    unfold F.cmp
    rw [e]
    by_cases h : a < b
    · simp [h]
    · by_cases k : b < a
      · have hne : ¬ a = b := fun e => by subst e; exact h k
        simp [h, k, hne]
      · have : a = b := UInt8.le_antisymm (UInt8.not_lt.1 k) (UInt8.not_lt.1 h)
        subst this
        rw [cmp_bytes xs bs, if_neg h, if_neg h]
        simp [h, F.cmp]
theorem cmp_lt {a b : List UInt8} : F.cmp a b < 0 ↔ F.lt a b = true := by
  unfold F.cmp
  split
  · simp_all
  · split <;> simp_all
theorem cmp_eq0 {a b : List UInt8} : F.cmp a b = 0 ↔ a = b := by
  unfold F.cmp
  split
  · rename_i h
    constructor
    · intro h; cases h
    · intro e; subst e; rw [lt_irr] at h; cases h
  · split <;> simp_all
set_option maxHeartbeats 1000000 in
theorem compareString (a b : ByteArray) (w : World) :
    Calls Tryz.prog 77 #[.string a, .string b] w fun e w' => e = .returned (.int .i64 (Lib.compareBytes a.data.toList b.data.toList)) ∧ w' = w := by
  go_enter Tryz.func77, Tryz.ntmps77
  go_wp2
  rw [run_callFunc_extern Tryz.func94 (by kernel_rfl) (by kernel_rfl) (by kernel_rfl) (e := Extern.BytealgCompare.compare) (by kernel_rfl), Lib.run_compareString]
  simp only [Result.andThen]
  rw [Oper.upon_value]
  go_wp2
  go_ret
  exact ⟨rfl, rfl⟩
def s_cstr : Summ cod := fun args _ => match args with
  | [.c (.str a), .c (.str b)] => .ret (.c (.int .i64 (F.cmp a b)), [])
  | _ => .fail
theorem cstr_sound : Sound Tryz.prog cod 77 s_cstr := by
  refine Sound.scal (fun args w => enters_fn Tryz.func77 rfl rfl args w) fun args H r news w ht hg => ?_
  unfold s_cstr at hg
  split at hg
  · rename_i a b
    cases hg
    refine ⟨rfl, rfl, .int .i64 (F.cmp a b), fun _ _ => rfl, ?_⟩
    refine (compareString ⟨a.toArray⟩ ⟨b.toArray⟩ w).mono ?_
    rintro e w' ⟨rfl, rfl⟩
    exact ⟨by rw [cmp_bytes], ⟨Below.refl _ _, Nat.le_refl _⟩⟩
  · exact hg.elim
end
end Go.Proofs.YtiolfkmkbccndaaGreatDoor
end
section
namespace Go.Proofs.YtiolfkmkbccndaaGreatDoor
open Sym Go.RowKit
noncomputable section
set_option maxRecDepth 100000
set_option maxHeartbeats 4000000


noncomputable def L_cstr : Sums cod := (77, .p s_cstr) :: L_0
noncomputable def C_cstr : Cfg cod := mkC L_cstr

theorem L_cstr_ok : Snd Tryz.prog cod L_cstr := .cons cstr_sound L_0_ok



noncomputable def s_scmp : Summ cod := autoS C_cstr Tryz.f60 400


theorem scmp_sound : Sound Tryz.prog cod 60 s_scmp := auto_sound (cfg := C_cstr) L_cstr_ok mixed Tryz.func60 rfl rfl 400

noncomputable def L_scmp : Sums cod := (60, .p s_scmp) :: L_cstr
noncomputable def C_scmp : Cfg cod := mkC L_scmp

theorem L_scmp_ok : Snd Tryz.prog cod L_scmp := .cons scmp_sound L_cstr_ok



namespace F
def keyC (c : Int) : Bool := decide (97 ≤ c) && decide (c ≤ 122) || decide (48 ≤ c) && decide (c ≤ 57) || decide (c = 46)
def valC (c : Int) : Bool := decide (32 ≤ c) && decide (c ≤ 126)
def keyB (s : List UInt8) : Bool := s.all fun b => keyC b.toNat
def valB (s : List UInt8) : Bool := s.all fun b => valC b.toNat
def key (s : List UInt8) : Bool := keyB s && decide (1 ≤ s.length ∧ s.length ≤ 12)
def value (s : List UInt8) : Bool := valB s && decide (s.length ≤ 40)
end F


def cuts_key : Cuts := [(2, [6, 0, 7, 8], 1)]

theorem key_t0 (s : List UInt8) : symF C_scmp cuts_key Tryz.f34.results.toList 0 400 [.code (codeOf Tryz.f34)] ⟨argsS Tryz.f34 [.c (.str s)], ([] : Heap cod)⟩ =
.need (((∀ (n : Int), (cod 3).ok [Cell.int IntKind.u8 n] = true) ∧ List.length s ≤ 9223372036854775807)) (
.ret (.cut (cutAt Tryz.f34 2) ⟨tmG 31 [(0, .c (.str s)), (5, .c (.slc 0 0 (List.length s) false)), (0, .c (.int .i64 (Int.ofNat (List.length s)))), (0, .c (.int .i64 0))], [.inp 3 (List.map (fun b => Int.ofNat (UInt8.toNat b)) s)]⟩)) := by kernel_rfl


noncomputable def st_key_2 (s : List UInt8) (r : List Int) (i : Int) (n : Nat) : St cod := ⟨tmG 31 [(0, .c (.str s)), (5, .c (.slc 0 0 n false)), (0, .c (.int .i64 n)), (0, .c (.int .i64 i))], ([.inp 3 r] : Heap cod)⟩


theorem key_t2 (s : List UInt8) (r : List Int) (i : Int) (n : Nat) : symF C_scmp cuts_key Tryz.f34.results.toList 0 400 (cutAt Tryz.f34 2) (st_key_2 s r i n) =
 cond (decide (i < Int.ofNat n)) (
 .need (((0 : Int) ≤ i ∧ i < Int.ofNat n)) (
 .need (0 + Int.toNat i < List.length r) (
 cond (decide (97 ≤ List.getD r (0 + Int.toNat i) (cod 3).d)) (
  cond (decide (List.getD r (0 + Int.toNat i) (cod 3).d ≤ 122)) (
   .need (i64ok (i + 1)) (
   .ret (.cut (cutAt Tryz.f34 2) ⟨tmG 31 [(0, .c (.str s)), (5, .c (.slc 0 0 (n) false)), (0, .c (.int .i64 (Int.ofNat n))), (0, .c (.int .i64 (i + 1)))], [.inp 3 r]⟩))) (
   cond (decide (48 ≤ List.getD r (0 + Int.toNat i) (cod 3).d)) (
    cond (decide (List.getD r (0 + Int.toNat i) (cod 3).d ≤ 57)) (
     .need (i64ok (i + 1)) (
     .ret (.cut (cutAt Tryz.f34 2) ⟨tmG 31 [(0, .c (.str s)), (5, .c (.slc 0 0 (n) false)), (0, .c (.int .i64 (Int.ofNat n))), (0, .c (.int .i64 (i + 1)))], [.inp 3 r]⟩))) (
     cond (!decide (List.getD r (0 + Int.toNat i) (cod 3).d = 46)) (
      .ret (.fin (.c (.bool false)) [])) (
      .need (i64ok (i + 1)) (
      .ret (.cut (cutAt Tryz.f34 2) ⟨tmG 31 [(0, .c (.str s)), (5, .c (.slc 0 0 (n) false)), (0, .c (.int .i64 (Int.ofNat n))), (0, .c (.int .i64 (i + 1)))], [.inp 3 r]⟩))))) (
    cond (!decide (List.getD r (0 + Int.toNat i) (cod 3).d = 46)) (
     .ret (.fin (.c (.bool false)) [])) (
     .need (i64ok (i + 1)) (
     .ret (.cut (cutAt Tryz.f34 2) ⟨tmG 31 [(0, .c (.str s)), (5, .c (.slc 0 0 (n) false)), (0, .c (.int .i64 (Int.ofNat n))), (0, .c (.int .i64 (i + 1)))], [.inp 3 r]⟩)))))) (
  cond (decide (48 ≤ List.getD r (0 + Int.toNat i) (cod 3).d)) (
   cond (decide (List.getD r (0 + Int.toNat i) (cod 3).d ≤ 57)) (
    .need (i64ok (i + 1)) (
    .ret (.cut (cutAt Tryz.f34 2) ⟨tmG 31 [(0, .c (.str s)), (5, .c (.slc 0 0 (n) false)), (0, .c (.int .i64 (Int.ofNat n))), (0, .c (.int .i64 (i + 1)))], [.inp 3 r]⟩))) (
    cond (!decide (List.getD r (0 + Int.toNat i) (cod 3).d = 46)) (
     .ret (.fin (.c (.bool false)) [])) (
     .need (i64ok (i + 1)) (
     .ret (.cut (cutAt Tryz.f34 2) ⟨tmG 31 [(0, .c (.str s)), (5, .c (.slc 0 0 (n) false)), (0, .c (.int .i64 (Int.ofNat n))), (0, .c (.int .i64 (i + 1)))], [.inp 3 r]⟩))))) (
   cond (!decide (List.getD r (0 + Int.toNat i) (cod 3).d = 46)) (
    .ret (.fin (.c (.bool false)) [])) (
    .need (i64ok (i + 1)) (
    .ret (.cut (cutAt Tryz.f34 2) ⟨tmG 31 [(0, .c (.str s)), (5, .c (.slc 0 0 (n) false)), (0, .c (.int .i64 (Int.ofNat n))), (0, .c (.int .i64 (i + 1)))], [.inp 3 r]⟩)))))))) (
 cond (decide (1 ≤ Int.ofNat (List.length s))) (
  .ret (.fin (.c (.bool (decide (Int.ofNat (List.length s) ≤ 12)))) [])) (
  .ret (.fin (.c (.bool false)) []))) := by kernel_rfl



theorem key_run (s : List UInt8) (b0 : Base) (hb : b0.n = 0) (h0 : s.length ≤ 1000000000000000) : Sym.Runs Tryz.prog b0 [.code (codeOf Tryz.f34)] ⟨argsS Tryz.f34 [.c (.str s)], ([] : Heap cod)⟩ (Sym.Ends Tryz.prog Tryz.f34 0 (.c (.bool (F.key s))) []) := by
  have hr0 : ∃ r : List Int, (s.map fun b => Int.ofNat b.toNat) = r ∧ r.length = s.length ∧ F.keyB s = r.all F.keyC :=
    ⟨_, rfl, List.length_map .., by rw [List.all_map]; rfl⟩
  obtain ⟨r, hr, hlen, hall⟩ := hr0
  have key : ∀ (m : Nat) (i : Int), 0 ≤ i → i + m = r.length → F.keyB s = (r.drop i.toNat).all F.keyC →
      Sym.Runs Tryz.prog b0 (cutAt Tryz.f34 2) (st_key_2 s r i s.length) (Sym.Ends Tryz.prog Tryz.f34 0 (.c (.bool (F.key s))) []) := by
    intro m
    induction m with
    | zero =>
      intro i hi hm hl
      refine Runs.go (cfg := C_scmp) L_scmp_ok mixed cuts_key 400 hb (key_t2 s r i s.length) ?_
      have h1 : ¬ i < (s.length : Int) := by omega
      rw [drop_end r (by omega)] at hl
      simp only [T.wp, T.wp_cond, Aft, Int.ofNat_eq_natCast, decide_eq_true_eq, and_true, Nat.zero_add, Bool.not_eq_true', decide_eq_false_iff_not]
      refine ite_no h1 ?_
      have e : F.key s = decide (1 ≤ s.length ∧ s.length ≤ 12) := by unfold F.key; rw [hl]; simp
      rw [e]
      by_cases c1 : (1 : Int) ≤ (s.length : Int)
      · refine ite_yes c1 ?_
        congr 2
        rw [decide_eq_decide]
        omega
      · refine ite_no c1 ?_
        rw [decide_eq_false (by omega)]
    | succ m ih =>
      intro i hi hm hl
      refine Runs.go (cfg := C_scmp) L_scmp_ok mixed cuts_key 400 hb (key_t2 s r i s.length) ?_
      have h1 : i < (s.length : Int) := by omega
      rw [drop_at r (0 : Int) hi (by omega), List.all_cons] at hl
      have nx := ih (i + 1) (by omega) (by omega)
      have hi1 : i64ok (i + 1) := by unfold i64ok; omega
      have e0 : ∀ k, List.getD r k (cod 3).d = List.getD r k (0 : Int) := fun _ => rfl
      simp only [T.wp, T.wp_cond, Aft, Int.ofNat_eq_natCast, decide_eq_true_eq, and_true, Nat.zero_add, Bool.not_eq_true', decide_eq_false_iff_not, e0]
      generalize List.getD r i.toNat (0 : Int) = c at *
      have yes : F.keyC c = true → F.keyB s = (r.drop (i + 1).toNat).all F.keyC := fun h => by rw [hl, h, Bool.true_and]
      have no : F.keyC c = false → SV.c (.bool false) = SV.c (.bool (F.key s)) := fun h => by unfold F.key; rw [hl, h]; rfl
      refine ite_yes h1 ⟨⟨hi, h1⟩, by omega, ?_⟩
      repeat' split
      all_goals first
        | exact ⟨hi1, nx (yes (by simp only [F.keyC, Bool.or_eq_true, Bool.and_eq_true, decide_eq_true_eq]; omega))⟩
        | exact no (by simp only [F.keyC, Bool.or_eq_false_iff, Bool.and_eq_false_iff, decide_eq_false_iff_not]; omega)
  refine Runs.go (cfg := C_scmp) L_scmp_ok mixed cuts_key 400 hb (key_t0 s) ?_
  simp only [T.wp, Aft, Int.ofNat_eq_natCast]
  subst hr
  exact ⟨⟨fun _ => rfl, by omega⟩, key s.length 0 (by omega) (by omega) (by simpa using hall)⟩



noncomputable def s_key : Summ cod := fun args H => match args, H with
  | [.c (.str s)], [] => .need ((s.length ≤ 1000000000000000)) (.ret (.c (.bool (F.key s)), []))
  | _, _ => .fail


theorem key_sound : Sound Tryz.prog cod 34 s_key := sound_runs (cfg := C_scmp) L_scmp_ok mixed Tryz.func34 rfl rfl _ fun args H r news hg b0 hb => by
  unfold s_key at hg
  split at hg
  · skip
    simp only [T.gives, T.wp, Prod.mk.injEq] at hg
    obtain ⟨q0, rfl, rfl⟩ := hg
    exact key_run _ b0 hb (by assumption)
  · exact hg.elim

noncomputable def L_key : Sums cod := (34, .p s_key) :: L_scmp
noncomputable def C_key : Cfg cod := mkC L_key

theorem L_key_ok : Snd Tryz.prog cod L_key := .cons key_sound L_scmp_ok



def cuts_isval : Cuts := [(2, [6, 0, 7, 8], 1)]

theorem isval_t0 (s : List UInt8) : symF C_key cuts_isval Tryz.f35.results.toList 0 400 [.code (codeOf Tryz.f35)] ⟨argsS Tryz.f35 [.c (.str s)], ([] : Heap cod)⟩ =
.need (((∀ (n : Int), (cod 3).ok [Cell.int IntKind.u8 n] = true) ∧ List.length s ≤ 9223372036854775807)) (
.ret (.cut (cutAt Tryz.f35 2) ⟨tmG 13 [(0, .c (.str s)), (5, .c (.slc 0 0 (List.length s) false)), (0, .c (.int .i64 (Int.ofNat (List.length s)))), (0, .c (.int .i64 0))], [.inp 3 (List.map (fun b => Int.ofNat (UInt8.toNat b)) s)]⟩)) := by kernel_rfl


noncomputable def st_isval_2 (s : List UInt8) (r : List Int) (i : Int) (n : Nat) : St cod := ⟨tmG 13 [(0, .c (.str s)), (5, .c (.slc 0 0 n false)), (0, .c (.int .i64 n)), (0, .c (.int .i64 i))], ([.inp 3 r] : Heap cod)⟩


theorem isval_t2 (s : List UInt8) (r : List Int) (i : Int) (n : Nat) : symF C_key cuts_isval Tryz.f35.results.toList 0 400 (cutAt Tryz.f35 2) (st_isval_2 s r i n) =
 cond (decide (i < Int.ofNat n)) (
 .need (((0 : Int) ≤ i ∧ i < Int.ofNat n)) (
 .need (0 + Int.toNat i < List.length r) (
 cond (decide (List.getD r (0 + Int.toNat i) (cod 3).d < 32)) (
  .ret (.fin (.c (.bool false)) [])) (
  cond (decide (126 < List.getD r (0 + Int.toNat i) (cod 3).d)) (
   .ret (.fin (.c (.bool false)) [])) (
   .need (i64ok (i + 1)) (
   .ret (.cut (cutAt Tryz.f35 2) ⟨tmG 13 [(0, .c (.str s)), (5, .c (.slc 0 0 (n) false)), (0, .c (.int .i64 (Int.ofNat n))), (0, .c (.int .i64 (i + 1)))], [.inp 3 r]⟩))))))) (
 .ret (.fin (.c (.bool (decide (Int.ofNat (List.length s) ≤ 40)))) [])) := by kernel_rfl



theorem isval_run (s : List UInt8) (b0 : Base) (hb : b0.n = 0) (h0 : s.length ≤ 1000000000000000) : Sym.Runs Tryz.prog b0 [.code (codeOf Tryz.f35)] ⟨argsS Tryz.f35 [.c (.str s)], ([] : Heap cod)⟩ (Sym.Ends Tryz.prog Tryz.f35 0 (.c (.bool (F.value s))) []) := by
  have hr0 : ∃ r : List Int, (s.map fun b => Int.ofNat b.toNat) = r ∧ r.length = s.length ∧ F.valB s = r.all F.valC :=
    ⟨_, rfl, List.length_map .., by rw [List.all_map]; rfl⟩
  obtain ⟨r, hr, hlen, hall⟩ := hr0
  have key : ∀ (m : Nat) (i : Int), 0 ≤ i → i + m = r.length → F.valB s = (r.drop i.toNat).all F.valC →
      Sym.Runs Tryz.prog b0 (cutAt Tryz.f35 2) (st_isval_2 s r i s.length) (Sym.Ends Tryz.prog Tryz.f35 0 (.c (.bool (F.value s))) []) := by
    intro m
    induction m with
    | zero =>
      intro i hi hm hl
      refine Runs.go (cfg := C_key) L_key_ok mixed cuts_isval 400 hb (isval_t2 s r i s.length) ?_
      have h1 : ¬ i < (s.length : Int) := by omega
      rw [drop_end r (by omega)] at hl
      simp only [T.wp, T.wp_cond, Aft, Int.ofNat_eq_natCast, decide_eq_true_eq, and_true, Nat.zero_add]
      refine ite_no h1 ?_
      have e : F.value s = decide (s.length ≤ 40) := by unfold F.value; rw [hl]; simp
      rw [e]
      congr 2
      rw [decide_eq_decide]
      omega
    | succ m ih =>
      intro i hi hm hl
      refine Runs.go (cfg := C_key) L_key_ok mixed cuts_isval 400 hb (isval_t2 s r i s.length) ?_
      have h1 : i < (s.length : Int) := by omega
      rw [drop_at r (0 : Int) hi (by omega), List.all_cons] at hl
      have nx := ih (i + 1) (by omega) (by omega)
      have hi1 : i64ok (i + 1) := by unfold i64ok; omega
      have e0 : ∀ k, List.getD r k (cod 3).d = List.getD r k (0 : Int) := fun _ => rfl
      simp only [T.wp, T.wp_cond, Aft, Int.ofNat_eq_natCast, decide_eq_true_eq, and_true, Nat.zero_add, e0]
      generalize List.getD r i.toNat (0 : Int) = c at *
      have yes : F.valC c = true → F.valB s = (r.drop (i + 1).toNat).all F.valC := fun h => by rw [hl, h, Bool.true_and]
      have no : F.valC c = false → SV.c (.bool false) = SV.c (.bool (F.value s)) := fun h => by unfold F.value; rw [hl, h]; rfl
      refine ite_yes h1 ⟨⟨hi, h1⟩, by omega, ?_⟩
      repeat' split
      all_goals first
        | exact ⟨hi1, nx (yes (by simp only [F.valC, Bool.and_eq_true, decide_eq_true_eq]; omega))⟩
        | exact no (by simp only [F.valC, Bool.and_eq_false_iff, decide_eq_false_iff_not]; omega)
  refine Runs.go (cfg := C_key) L_key_ok mixed cuts_isval 400 hb (isval_t0 s) ?_
  simp only [T.wp, Aft, Int.ofNat_eq_natCast]
  subst hr
  exact ⟨⟨fun _ => rfl, by omega⟩, key s.length 0 (by omega) (by omega) (by simpa using hall)⟩



noncomputable def s_isval : Summ cod := fun args H => match args, H with
  | [.c (.str s)], [] => .need ((s.length ≤ 1000000000000000)) (.ret (.c (.bool (F.value s)), []))
  | _, _ => .fail


theorem isval_sound : Sound Tryz.prog cod 35 s_isval := sound_runs (cfg := C_key) L_key_ok mixed Tryz.func35 rfl rfl _ fun args H r news hg b0 hb => by
  unfold s_isval at hg
  split at hg
  · skip
    simp only [T.gives, T.wp, Prod.mk.injEq] at hg
    obtain ⟨q0, rfl, rfl⟩ := hg
    exact isval_run _ b0 hb (by assumption)
  · exact hg.elim

noncomputable def L_isval : Sums cod := (35, .p s_isval) :: L_key
noncomputable def C_isval : Cfg cod := mkC L_isval

theorem L_isval_ok : Snd Tryz.prog cod L_isval := .cons isval_sound L_key_ok


end
end Go.Proofs.YtiolfkmkbccndaaGreatDoor
end
