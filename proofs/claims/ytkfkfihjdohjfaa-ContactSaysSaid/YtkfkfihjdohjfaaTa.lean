/- Part of a claim: lemmas on the way to its theorem; each states its own conditions. -/
import Derived.Test.YtkfkfihjdohjfaaBd23
import Derived.Test.YtkfkfihjdohjfaaBd24
import Derived.Test.YtkfkfihjdohjfaaRows
namespace Go.Proofs.Ytkfkfihjdohjfaa
open Sym Go.RowKit
noncomputable section
def intC : Codec where
  α := Int
  enc := fun x => [.int .i64 x]
  dec := fun l => match l with | [.int _ a0] => a0 | _ => 0
  ok := fun l => match l with | [.int .i64 _] => true | _ => false
  size := 1
  d := 0
  size_eq := fun _ => rfl
  scal := fun _ => rfl
  ok_spec := fun e h => by
    split at h
    · rfl
    · cases h
  pos := Nat.zero_lt_succ _
def stC : Codec where
  α := List UInt8 × List UInt8 × Int × Int × Int
  enc := fun x => [.str x.1, .str x.2.1, .int .i64 x.2.2.1, .int .i64 x.2.2.2.1, .int .i64 x.2.2.2.2]
  dec := fun l => match l with | [.str a0, .str a1, .int _ a2, .int _ a3, .int _ a4] => (a0, a1, a2, a3, a4) | _ => ([], [], 0, 0, 0)
  ok := fun l => match l with | [.str _, .str _, .int .i64 _, .int .i64 _, .int .i64 _] => true | _ => false
  size := 5
  d := ([], [], 0, 0, 0)
  size_eq := fun _ => rfl
  scal := fun _ => rfl
  ok_spec := fun e h => by
    split at h
    · rfl
    · cases h
  pos := Nat.zero_lt_succ _
def strC : Codec where
  α := List UInt8
  enc := fun x => [.str x]
  dec := fun l => match l with | [.str a0] => a0 | _ => []
  ok := fun l => match l with | [.str _] => true | _ => false
  size := 1
  d := []
  size_eq := fun _ => rfl
  scal := fun _ => rfl
  ok_spec := fun e h => by
    split at h
    · rfl
    · cases h
  pos := Nat.zero_lt_succ _
def u8C : Codec where
  α := Int
  enc := fun x => [.int .u8 x]
  dec := fun l => match l with | [.int _ a0] => a0 | _ => 0
  ok := fun l => match l with | [.int .u8 _] => true | _ => false
  size := 1
  d := 0
  size_eq := fun _ => rfl
  scal := fun _ => rfl
  ok_spec := fun e h => by
    split at h
    · rfl
    · cases h
  pos := Nat.zero_lt_succ _
def boolC : Codec where
  α := Bool
  enc := fun x => [.bool x]
  dec := fun l => match l with | [.bool a0] => a0 | _ => false
  ok := fun l => match l with | [.bool _] => true | _ => false
  size := 1
  d := false
  size_eq := fun _ => rfl
  scal := fun _ => rfl
  ok_spec := fun e h => by
    split at h
    · rfl
    · cases h
  pos := Nat.zero_lt_succ _
def coC : Codec where
  α := List UInt8 × Int × Int
  enc := fun x => [.str x.1, .int .i64 x.2.1, .int .i64 x.2.2]
  dec := fun l => match l with | [.str a0, .int _ a1, .int _ a2] => (a0, a1, a2) | _ => ([], 0, 0)
  ok := fun l => match l with | [.str _, .int .i64 _, .int .i64 _] => true | _ => false
  size := 3
  d := ([], 0, 0)
  size_eq := fun _ => rfl
  scal := fun _ => rfl
  ok_spec := fun e h => by
    split at h
    · rfl
    · cases h
  pos := Nat.zero_lt_succ _
def scC : Codec where
  α := Int × List UInt8 × List UInt8 × Int × Int × Int
  enc := fun x => [.int .i64 x.1, .str x.2.1, .str x.2.2.1, .int .i64 x.2.2.2.1, .int .i64 x.2.2.2.2.1, .int .i64 x.2.2.2.2.2]
  dec := fun l => match l with | [.int _ a0, .str a1, .str a2, .int _ a3, .int _ a4, .int _ a5] => (a0, a1, a2, a3, a4, a5) | _ => (0, [], [], 0, 0, 0)
  ok := fun l => match l with | [.int .i64 _, .str _, .str _, .int .i64 _, .int .i64 _, .int .i64 _] => true | _ => false
  size := 6
  d := (0, [], [], 0, 0, 0)
  size_eq := fun _ => rfl
  scal := fun _ => rfl
  ok_spec := fun e h => by
    split at h
    · rfl
    · cases h
  pos := Nat.zero_lt_succ _
def ccC : Codec where
  α := Int × Int × Int × List UInt8
  enc := fun x => [.int .i64 x.1, .int .i64 x.2.1, .int .i64 x.2.2.1, .str x.2.2.2]
  dec := fun l => match l with | [.int _ a0, .int _ a1, .int _ a2, .str a3] => (a0, a1, a2, a3) | _ => (0, 0, 0, [])
  ok := fun l => match l with | [.int .i64 _, .int .i64 _, .int .i64 _, .str _] => true | _ => false
  size := 4
  d := (0, 0, 0, [])
  size_eq := fun _ => rfl
  scal := fun _ => rfl
  ok_spec := fun e h => by
    split at h
    · rfl
    · cases h
  pos := Nat.zero_lt_succ _
noncomputable def cod : Nat → Codec
  | 0 => intC
  | 1 => stC
  | 2 => strC
  | 3 => u8C
  | 4 => boolC
  | 5 => coC
  | 6 => scC
  | 7 => ccC
  | _ => intC
def ctags : List (TypeId × Nat) := [(3, 0), (26, 1), (9, 2), (5, 3), (4, 4), (56, 5), (31, 6), (53, 7)]
def ctg (t : TypeId) : Option Nat := (ctags.find? fun p => p.1 == t).map (·.2)
def loud : List FuncId := [20, 21, 6, 23, 17, 48, 30, 51, 55, 37, 38, 35]
set_option maxRecDepth 100000
set_option maxHeartbeats 4000000
noncomputable def mkC (L : Sums cod) : Cfg cod := { P := Try.prog, ctag := ctg, summ := lookS L, summI := lookI L, quiet := fun g => !loud.contains g, wrap := false }
noncomputable def mkW (L : Sums cod) : Cfg cod := { P := Try.prog, ctag := ctg, summ := lookS L, summI := lookI L, quiet := fun g => !loud.contains g, wrap := true }
noncomputable def L_0 : Sums cod := []
noncomputable def C_0 : Cfg cod := mkC L_0


theorem L_0_ok : Snd Try.prog cod L_0 := .nil
theorem mixed : Try.prog.follows .mixedOrders = true := by kernel_rfl

namespace F
def inb (n lo hi : Int) : Bool := decide (lo ≤ n) && decide (n ≤ hi)
def rcut (n lo hi : Int) : Int := lo + n % (hi - lo + 1)
end F

noncomputable def s_in : Summ cod := fun args H => match H with
  | [] => match rd args with
    | some [[n], [lo], [hi]] => (.ret (.c (.bool (F.inb n lo hi)), []))
    | _ => .fail
  | _ => .fail

theorem in_tree (n lo hi : Int) : symF C_0 [] Try.f10.results.toList (List.length ([] : Heap cod)) 400 [.code (codeOf Try.f10)] ⟨argsS Try.f10 [.c (.int .i64 n), .c (.int .i64 lo), .c (.int .i64 hi)], []⟩ =
 cond (decide (lo ≤ n)) (
 .ret (.fin (.c (.bool (decide (n ≤ hi)))) [])) (
 .ret (.fin (.c (.bool false)) [])) := by kernel_rfl

theorem in_sound : Sound Try.prog cod 10 s_in := sound_flat (cfg := C_0) L_0_ok mixed Try.func10 rfl rfl _ 400 fun args H r news hg => by
  unfold s_in at hg
  split at hg
  · split at hg
    · rename_i n lo hi hrd
      have hargs := rd_spec hrd
      simp only [List.map, wr1, ints, List.tail] at hargs
      subst hargs
      clear hrd
      rw [in_tree]
      try simp only [T.gives, T.wp, Prod.mk.injEq] at hg
      obtain ⟨rfl, rfl⟩ := hg
      simp only [T.wp, T.wp_cond, Fin.fin.injEq, SV.c.injEq, Cell.bool.injEq, Cell.int.injEq, and_true, true_and, decide_eq_true_eq, F.inb]
      (repeat' split) <;> simp_all <;> omega
    · exact hg.elim
  · exact hg.elim

noncomputable def L_in : Sums cod := (10, .p s_in) :: L_0
noncomputable def C_in : Cfg cod := mkC L_in

theorem L_in_ok : Snd Try.prog cod L_in := .cons in_sound L_0_ok


def cuts_rcut : Cuts := []

theorem rcut_t0 (n : Int) (lo : Int) (hi : Int) : symF (mkW L_in) cuts_rcut Try.f11.results.toList 0 400 [.code (codeOf Try.f11)] ⟨argsS Try.f11 [.c (.int .i64 n), .c (.int .i64 lo), .c (.int .i64 hi)], ([] : Heap cod)⟩ =
.need (IntKind.wrap IntKind.i64 (IntKind.wrap IntKind.i64 (hi - lo) + 1) ≠ 0) (
 cond (decide (Int.tmod n (IntKind.wrap IntKind.i64 (IntKind.wrap IntKind.i64 (hi - lo) + 1)) < 0)) (
 .ret (.fin (.c (.int .i64 (IntKind.wrap IntKind.i64   (lo +     IntKind.wrap IntKind.i64       (Int.tmod n (IntKind.wrap IntKind.i64 (IntKind.wrap IntKind.i64 (hi - lo) + 1)) +         IntKind.wrap IntKind.i64 (IntKind.wrap IntKind.i64 (hi - lo) + 1)))))) [])) (
 .ret (.fin (.c (.int .i64 (IntKind.wrap IntKind.i64 (lo + Int.tmod n (IntKind.wrap IntKind.i64 (IntKind.wrap IntKind.i64 (hi - lo) + 1)))))) []))) := by kernel_rfl



theorem rcut_run (n : Int) (lo : Int) (hi : Int) (b0 : Base) (hb : b0.n = 0) (h0 : 0 ≤ lo) (h1 : lo ≤ hi) (h2 : hi ≤ 100000) (h3 : i64ok n) : Sym.Runs Try.prog b0 [.code (codeOf Try.f11)] ⟨argsS Try.f11 [.c (.int .i64 n), .c (.int .i64 lo), .c (.int .i64 hi)], ([] : Heap cod)⟩ (Sym.Ends Try.prog Try.f11 0 (.c (.int .i64 (F.rcut n lo hi))) []) := by
  refine Runs.go (cfg := (mkW L_in)) L_in_ok mixed cuts_rcut 400 hb (rcut_t0 n lo hi) ?_
  unfold i64ok at h3
  have w1 : IntKind.wrap .i64 (hi - lo) = hi - lo := wrap_ok (by unfold i64ok; omega)
  have w2 : IntKind.wrap .i64 (hi - lo + 1) = hi - lo + 1 := wrap_ok (by unfold i64ok; omega)
  simp only [T.wp, T.wp_cond, Aft, Int.ofNat_eq_natCast, decide_eq_true_eq, and_true, true_and, Nat.zero_add, Bool.not_eq_true', decide_eq_false_iff_not, w1, w2]
  unfold F.rcut
  have hm : 0 < hi - lo + 1 := by omega
  have hm2 : hi - lo + 1 ≤ 100001 := by omega
  generalize hi - lo + 1 = m at *
  have e := Int.tmod_eq_emod (a := n) (b := m)
  have b1 := Int.emod_nonneg n (show m ≠ 0 by omega)
  have b2 := Int.emod_lt_of_pos n hm
  have hd : m ∣ n → n % m = 0 := Int.emod_eq_zero_of_dvd
  refine ⟨by omega, ?_⟩
  by_cases c : 0 ≤ n ∨ m ∣ n
  · rw [if_pos c] at e
    have e' : n.tmod m = n % m := by simpa using e
    rw [e', if_neg (by omega), wrap_ok (by unfold i64ok; omega)]
  · rw [if_neg c] at e
    have e' : n.tmod m = n % m - m := by rw [e]; omega
    have : n.tmod m < 0 := by omega
    rw [if_pos this, e', wrap_ok (n := n % m - m + m) (by unfold i64ok; omega), wrap_ok (by unfold i64ok; omega)]
    congr 3
    omega



noncomputable def s_rcut : Summ cod := fun args H => match args, H with
  | [.c (.int .i64 n), .c (.int .i64 lo), .c (.int .i64 hi)], [] => .need ((0 ≤ lo) ∧ (lo ≤ hi) ∧ (hi ≤ 100000) ∧ (i64ok n)) (.ret (.c (.int .i64 (F.rcut n lo hi)), []))
  | _, _ => .fail


theorem rcut_sound : Sound Try.prog cod 11 s_rcut := sound_runs (cfg := C_in) L_in_ok mixed Try.func11 rfl rfl _ fun args H r news hg b0 hb => by
  unfold s_rcut at hg
  split at hg
  · skip
    simp only [T.gives, T.wp, Prod.mk.injEq] at hg
    obtain ⟨⟨q0, q1, q2, q3⟩, rfl, rfl⟩ := hg
    exact rcut_run _ _ _ b0 hb (by assumption) (by assumption) (by assumption) (by assumption)
  · exact hg.elim

noncomputable def L_rcut : Sums cod := (11, .p s_rcut) :: L_in
noncomputable def C_rcut : Cfg cod := mkC L_rcut

theorem L_rcut_ok : Snd Try.prog cod L_rcut := .cons rcut_sound L_in_ok



namespace F
def up (c : UInt8) : Bool := decide (65 ≤ (c.toNat : Int)) && decide ((c.toNat : Int) ≤ 90)
def dig (c : UInt8) : Bool := decide (48 ≤ (c.toNat : Int)) && decide ((c.toNat : Int) ≤ 57)
def nm (first : Bool) : List UInt8 → Bool
  | [] => true
  | c :: r => (up c || (!first && dig c)) && nm false r
def named (s : List UInt8) : Bool := decide (1 ≤ s.length) && (decide (s.length ≤ 8) && nm true s)
end F


theorem nm_up {c : UInt8} {r : List UInt8} {first : Bool} : F.nm first (c :: r) = ((F.up c || (!first && F.dig c)) && F.nm false r) := rfl
theorem map_getD (s : List UInt8) (k : Nat) (h : k < s.length) : (List.map (fun b => (UInt8.toNat b : Int)) s).getD k 0 = ((s.getD k 0).toNat : Int) := by
  simp [List.getD, List.getElem?_eq_getElem h]


def cuts_cname : Cuts := [(4, [14, 15, 16], 1)]

theorem cname_t0 (s : List UInt8) : symF C_rcut cuts_cname Try.f39.results.toList 0 400 [.code (codeOf Try.f39)] ⟨argsS Try.f39 [.c (.str s)], ([] : Heap cod)⟩ =
 cond (decide (Int.ofNat (List.length s) < 1)) (
 .ret (.fin (.c (.bool false)) [])) (
 cond (decide (8 < Int.ofNat (List.length s))) (
  .ret (.fin (.c (.bool false)) [])) (
  .need (((∀ (n : Int), (cod 3).ok [Cell.int IntKind.u8 n] = true) ∧ List.length s ≤ 9223372036854775807)) (
  .ret (.cut (cutAt Try.f39 4) ⟨tmG 24 [(14, .c (.slc 0 0 (List.length s) false)), (0, .c (.int .i64 (Int.ofNat (List.length s)))), (0, .c (.int .i64 0))], [.inp 3 (List.map (fun b => Int.ofNat (UInt8.toNat b)) s)]⟩)))) := by kernel_rfl


noncomputable def st_cname_4 (s : List UInt8) (i : Int) : St cod := ⟨tmG 24 [(14, .c (.slc 0 0 (List.length s) false)), (0, .c (.int .i64 (Int.ofNat (List.length s)))), (0, .c (.int .i64 i))], [.inp 3 (List.map (fun b => Int.ofNat (UInt8.toNat b)) s)]⟩


theorem cname_t4 (s : List UInt8) (i : Int) : symF C_rcut cuts_cname Try.f39.results.toList 0 400 (cutAt Try.f39 4) (st_cname_4 s i) =
 cond (decide (i < Int.ofNat (List.length s))) (
 .need (((0 : Int) ≤ i ∧ i < Int.ofNat (List.length s))) (
 .need (0 + Int.toNat i < List.length (List.map (fun b => Int.ofNat (UInt8.toNat b)) s)) (
 cond (decide (65 ≤ List.getD (List.map (fun b => Int.ofNat (UInt8.toNat b)) s) (0 + Int.toNat i) (cod 3).d)) (
  cond (decide (List.getD (List.map (fun b => Int.ofNat (UInt8.toNat b)) s) (0 + Int.toNat i) (cod 3).d ≤ 90)) (
   .need (i64ok (i + 1)) (
   .ret (.cut (cutAt Try.f39 4) ⟨tmG 24 [(14, .c (.slc 0 0 (List.length s) false)), (0, .c (.int .i64 (Int.ofNat (List.length s)))), (0, .c (.int .i64 (i + 1)))], [.inp 3 (List.map (fun b => Int.ofNat (UInt8.toNat b)) s)]⟩))) (
   cond (decide (0 < i)) (
    cond (decide (48 ≤ List.getD (List.map (fun b => Int.ofNat (UInt8.toNat b)) s) (0 + Int.toNat i) (cod 3).d)) (
     cond (!decide (List.getD (List.map (fun b => Int.ofNat (UInt8.toNat b)) s) (0 + Int.toNat i) (cod 3).d ≤ 57)) (
      .ret (.fin (.c (.bool false)) [])) (
      .need (i64ok (i + 1)) (
      .ret (.cut (cutAt Try.f39 4) ⟨tmG 24 [(14, .c (.slc 0 0 (List.length s) false)), (0, .c (.int .i64 (Int.ofNat (List.length s)))), (0, .c (.int .i64 (i + 1)))], [.inp 3 (List.map (fun b => Int.ofNat (UInt8.toNat b)) s)]⟩)))) (
     .ret (.fin (.c (.bool false)) []))) (
    .ret (.fin (.c (.bool false)) [])))) (
  cond (decide (0 < i)) (
   cond (decide (48 ≤ List.getD (List.map (fun b => Int.ofNat (UInt8.toNat b)) s) (0 + Int.toNat i) (cod 3).d)) (
    cond (!decide (List.getD (List.map (fun b => Int.ofNat (UInt8.toNat b)) s) (0 + Int.toNat i) (cod 3).d ≤ 57)) (
     .ret (.fin (.c (.bool false)) [])) (
     .need (i64ok (i + 1)) (
     .ret (.cut (cutAt Try.f39 4) ⟨tmG 24 [(14, .c (.slc 0 0 (List.length s) false)), (0, .c (.int .i64 (Int.ofNat (List.length s)))), (0, .c (.int .i64 (i + 1)))], [.inp 3 (List.map (fun b => Int.ofNat (UInt8.toNat b)) s)]⟩)))) (
    .ret (.fin (.c (.bool false)) []))) (
   .ret (.fin (.c (.bool false)) [])))))) (
 .ret (.fin (.c (.bool true)) [])) := by kernel_rfl



theorem cname_loop (s : List UInt8) (hs : s.length ≤ 8) (b0 : Base) (hb : b0.n = 0) (u : Bool) : ∀ (m : Nat) (i : Int), 0 ≤ i → i + m = s.length → u = F.nm (decide (i = 0)) (s.drop i.toNat) →
    Sym.Runs Try.prog b0 (cutAt Try.f39 4) (st_cname_4 s i) (Sym.Ends Try.prog Try.f39 0 (.c (.bool u)) []) := by
  have hd : (cod 3).d = (0 : Int) := rfl
  intro m
  induction m with
  | zero =>
    intro i h0 hm hu
    refine Runs.go (cfg := C_rcut) L_rcut_ok mixed cuts_cname 400 hb (cname_t4 s i) ?_
    have h1 : ¬ i < (s.length : Int) := by omega
    rw [drop_end s h1] at hu
    simp only [T.wp, T.wp_cond, Aft, Int.ofNat_eq_natCast, decide_eq_true_eq, and_true, true_and, Nat.zero_add, Bool.not_eq_true', decide_eq_false_iff_not, h1, if_false, hu, F.nm]
  | succ m ih =>
    intro i h0 hm hu
    refine Runs.go (cfg := C_rcut) L_rcut_ok mixed cuts_cname 400 hb (cname_t4 s i) ?_
    have h1 : i < (s.length : Int) := by omega
    have k1 : i.toNat < s.length := by omega
    rw [drop_at s 0 h0 h1, nm_up] at hu
    have nx := ih (i + 1) (by omega) (by omega)
    rw [show decide (i + 1 = 0) = false by simp; omega] at nx
    simp only [T.wp, T.wp_cond, Aft, Int.ofNat_eq_natCast, decide_eq_true_eq, and_true, true_and, Nat.zero_add, Bool.not_eq_true', decide_eq_false_iff_not, h1, if_true, hd, map_getD s i.toNat k1, List.length_map]
    unfold F.up F.dig at hu
    generalize s.getD i.toNat 0 = c at *
    refine ⟨h0, k1, ?_⟩
    have hi : i64ok (i + 1) := by unfold i64ok; omega
    have c0 : 0 < i ∧ ¬ i = 0 ∨ ¬ 0 < i ∧ i = 0 := by omega
    by_cases c1 : 65 ≤ (c.toNat : Int) <;> by_cases c2 : (c.toNat : Int) ≤ 90 <;> by_cases c3 : 48 ≤ (c.toNat : Int) <;> by_cases c4 : (c.toNat : Int) ≤ 57 <;> rcases c0 with ⟨c5, c6⟩ | ⟨c5, c6⟩ <;>
      simp only [c1, c2, c3, c4, c5, if_true, if_false, hi, true_and, not_true_eq_false, not_false_eq_true] <;>
      first
        | (refine nx ?_; rw [hu]; simp [c1, c2, c3, c4, c6]; done)
        | (rw [hu]; simp [c1, c2, c3, c4, c6]; done)
theorem cname_run (s : List UInt8) (b0 : Base) (hb : b0.n = 0)  : Sym.Runs Try.prog b0 [.code (codeOf Try.f39)] ⟨argsS Try.f39 [.c (.str s)], ([] : Heap cod)⟩ (Sym.Ends Try.prog Try.f39 0 (.c (.bool (F.named s))) []) := by
  refine Runs.go (cfg := C_rcut) L_rcut_ok mixed cuts_cname 400 hb (cname_t0 s) ?_
  have hok : ∀ n : Int, (cod 3).ok [.int .u8 n] = true := fun _ => rfl
  unfold F.named
  simp only [T.wp, T.wp_cond, Aft, Int.ofNat_eq_natCast, decide_eq_true_eq, and_true, true_and, Nat.zero_add, Bool.not_eq_true', decide_eq_false_iff_not]
  by_cases h1 : (s.length : Int) < 1
  · simp [h1, show ¬ 1 ≤ s.length by omega]
  by_cases h2 : (8 : Int) < s.length
  · simp [h1, h2, show ¬ s.length ≤ 8 by omega]
  simp only [h1, h2, if_false, show 1 ≤ s.length by omega, show s.length ≤ 8 by omega, decide_true, Bool.true_and]
  exact ⟨⟨hok, by omega⟩, cname_loop s (by omega) b0 hb _ s.length 0 (by omega) (by omega) rfl⟩



noncomputable def s_cname : Summ cod := fun args H => match args, H with
  | [.c (.str s)], [] => .ret (.c (.bool (F.named s)), [])
  | _, _ => .fail


theorem cname_sound : Sound Try.prog cod 39 s_cname := sound_runs (cfg := C_rcut) L_rcut_ok mixed Try.func39 rfl rfl _ fun args H r news hg b0 hb => by
  unfold s_cname at hg
  split at hg
  · skip
    cases hg
    exact cname_run _ b0 hb 
  · exact hg.elim

noncomputable def L_cname : Sums cod := (39, .p s_cname) :: L_rcut
noncomputable def C_cname : Cfg cod := mkC L_cname

theorem L_cname_ok : Snd Try.prog cod L_cname := .cons cname_sound L_rcut_ok



def cuts_rnamed : Cuts := [(4, [0, 25, 26], 0)]

theorem rnamed_t0 (s : List UInt8) : symF C_cname cuts_rnamed Try.f9.results.toList 0 400 [.code (codeOf Try.f9)] ⟨argsS Try.f9 [.c (.str s)], ([] : Heap cod)⟩ =
 cond (decide (Int.ofNat (List.length s) < 1)) (
 .ret (.fin (.c (.bool false)) [])) (
 cond (decide (8 < Int.ofNat (List.length s))) (
  .ret (.fin (.c (.bool false)) [])) (
  .need (((0 : Int) ≤ 0 ∧ (0 : Int) < Int.ofNat (List.length s))) (
  cond (decide (65 ≤ Int.ofNat (UInt8.toNat (List.getD s (Int.toNat 0) 0)))) (
   .need (((0 : Int) ≤ 0 ∧ (0 : Int) < Int.ofNat (List.length s))) (
   cond (!decide (Int.ofNat (UInt8.toNat (List.getD s (Int.toNat 0) 0)) ≤ 90)) (
    .ret (.fin (.c (.bool false)) [])) (
    .ret (.cut (cutAt Try.f9 4) ⟨tmG 22 [(0, .c (.str s)), (24, .c (.int .i64 (Int.ofNat (List.length s)))), (0, .c (.int .i64 0))], []⟩)))) (
   .ret (.fin (.c (.bool false)) []))))) := by kernel_rfl


noncomputable def st_rnamed_4 (s : List UInt8) (i : Int) : St cod := ⟨tmG 22 [(0, .c (.str s)), (24, .c (.int .i64 (Int.ofNat (List.length s)))), (0, .c (.int .i64 i))], []⟩


theorem rnamed_t4 (s : List UInt8) (i : Int) : symF C_cname cuts_rnamed Try.f9.results.toList 0 400 (cutAt Try.f9 4) (st_rnamed_4 s i) =
 cond (decide (i < Int.ofNat (List.length s))) (
 .need (((0 : Int) ≤ i ∧ i < Int.ofNat (List.length s))) (
 cond (decide (65 ≤ Int.ofNat (UInt8.toNat (List.getD s (Int.toNat i) 0)))) (
  cond (!decide (Int.ofNat (UInt8.toNat (List.getD s (Int.toNat i) 0)) ≤ 90)) (
   cond (decide (48 ≤ Int.ofNat (UInt8.toNat (List.getD s (Int.toNat i) 0)))) (
    cond (!decide (Int.ofNat (UInt8.toNat (List.getD s (Int.toNat i) 0)) ≤ 57)) (
     .ret (.fin (.c (.bool false)) [])) (
     .need (i64ok (i + 1)) (
     .ret (.cut (cutAt Try.f9 4) ⟨tmG 22 [(0, .c (.str s)), (24, .c (.int .i64 (Int.ofNat (List.length s)))), (0, .c (.int .i64 (i + 1)))], []⟩)))) (
    .ret (.fin (.c (.bool false)) []))) (
   .need (i64ok (i + 1)) (
   .ret (.cut (cutAt Try.f9 4) ⟨tmG 22 [(0, .c (.str s)), (24, .c (.int .i64 (Int.ofNat (List.length s)))), (0, .c (.int .i64 (i + 1)))], []⟩)))) (
  cond (decide (48 ≤ Int.ofNat (UInt8.toNat (List.getD s (Int.toNat i) 0)))) (
   cond (!decide (Int.ofNat (UInt8.toNat (List.getD s (Int.toNat i) 0)) ≤ 57)) (
    .ret (.fin (.c (.bool false)) [])) (
    .need (i64ok (i + 1)) (
    .ret (.cut (cutAt Try.f9 4) ⟨tmG 22 [(0, .c (.str s)), (24, .c (.int .i64 (Int.ofNat (List.length s)))), (0, .c (.int .i64 (i + 1)))], []⟩)))) (
   .ret (.fin (.c (.bool false)) []))))) (
 .ret (.fin (.c (.bool true)) [])) := by kernel_rfl



theorem rnamed_loop (s : List UInt8) (hs : s.length ≤ 8) (h0u : F.up (s.getD 0 0) = true) (b0 : Base) (hb : b0.n = 0) (u : Bool) : ∀ (m : Nat) (i : Int), 0 ≤ i → i + m = s.length → u = F.nm (decide (i = 0)) (s.drop i.toNat) →
    Sym.Runs Try.prog b0 (cutAt Try.f9 4) (st_rnamed_4 s i) (Sym.Ends Try.prog Try.f9 0 (.c (.bool u)) []) := by
  intro m
  induction m with
  | zero =>
    intro i h0 hm hu
    refine Runs.go (cfg := C_cname) L_cname_ok mixed cuts_rnamed 400 hb (rnamed_t4 s i) ?_
    have h1 : ¬ i < (s.length : Int) := by omega
    rw [drop_end s h1] at hu
    simp only [T.wp, T.wp_cond, Aft, Int.ofNat_eq_natCast, decide_eq_true_eq, and_true, true_and, Nat.zero_add, Bool.not_eq_true', decide_eq_false_iff_not, h1, if_false, hu, F.nm]
  | succ m ih =>
    intro i h0 hm hu
    refine Runs.go (cfg := C_cname) L_cname_ok mixed cuts_rnamed 400 hb (rnamed_t4 s i) ?_
    have h1 : i < (s.length : Int) := by omega
    rw [drop_at s 0 h0 h1, nm_up] at hu
    have nx := ih (i + 1) (by omega) (by omega)
    rw [show decide (i + 1 = 0) = false by simp; omega] at nx
    have hz : i = 0 → F.up (s.getD i.toNat 0) = true := fun h => by rw [h]; exact h0u
    simp only [T.wp, T.wp_cond, Aft, Int.ofNat_eq_natCast, decide_eq_true_eq, and_true, true_and, Nat.zero_add, Bool.not_eq_true', decide_eq_false_iff_not, h1, if_true]
    unfold F.up F.dig at *
    generalize s.getD i.toNat 0 = c at *
    refine ⟨h0, ?_⟩
    have hi : i64ok (i + 1) := by unfold i64ok; omega
    by_cases c1 : 65 ≤ (c.toNat : Int) <;> by_cases c2 : (c.toNat : Int) ≤ 90 <;> by_cases c3 : 48 ≤ (c.toNat : Int) <;> by_cases c4 : (c.toNat : Int) ≤ 57 <;> by_cases c5 : i = 0 <;>
      simp only [c1, c2, c3, c4, if_true, if_false, hi, true_and, not_true_eq_false, not_false_eq_true] <;>
      first
        | (exfalso; have hh := hz c5; simp [c1, c2] at hh; done)
        | (refine nx ?_; rw [hu]; simp [c1, c2, c3, c4, c5]; done)
        | (rw [hu]; simp [c1, c2, c3, c4, c5]; done)
theorem rnamed_run (s : List UInt8) (b0 : Base) (hb : b0.n = 0)  : Sym.Runs Try.prog b0 [.code (codeOf Try.f9)] ⟨argsS Try.f9 [.c (.str s)], ([] : Heap cod)⟩ (Sym.Ends Try.prog Try.f9 0 (.c (.bool (F.named s))) []) := by
  refine Runs.go (cfg := C_cname) L_cname_ok mixed cuts_rnamed 400 hb (rnamed_t0 s) ?_
  unfold F.named
  simp only [T.wp, T.wp_cond, Aft, Int.ofNat_eq_natCast, decide_eq_true_eq, and_true, true_and, Nat.zero_add, Bool.not_eq_true', decide_eq_false_iff_not]
  by_cases h1 : (s.length : Int) < 1
  · simp [h1, show ¬ 1 ≤ s.length by omega]
  by_cases h2 : (8 : Int) < s.length
  · simp [h1, h2, show ¬ s.length ≤ 8 by omega]
  have e0 : s.drop 0 = s.getD 0 0 :: s.drop 1 := drop_at s 0 (i := 0) (by omega) (by omega)
  rw [List.drop_zero] at e0
  have e1 : F.nm true s = (F.up (s.getD 0 0) && F.nm false (s.drop 1)) := by
    conv => lhs; rw [e0, nm_up]
    simp
  simp only [h1, h2, if_false, show 1 ≤ s.length by omega, show s.length ≤ 8 by omega, decide_true, Bool.true_and, Int.toNat_zero]
  refine ⟨by omega, ?_⟩
  by_cases c1 : 65 ≤ ((s.getD 0 0).toNat : Int)
  · simp only [c1, if_true]
    refine ⟨by omega, ?_⟩
    by_cases c2 : ((s.getD 0 0).toNat : Int) ≤ 90
    · simp only [c2, not_true_eq_false, if_false]
      exact rnamed_loop s (by omega) (by unfold F.up; rw [decide_eq_true c1, decide_eq_true c2]; rfl) b0 hb _ s.length 0 (by omega) (by omega) rfl
    · have : F.up (s.getD 0 0) = false := by unfold F.up; simp only [c2, decide_false, Bool.and_false]
      simp only [c2, not_false_eq_true, if_true, e1, this, Bool.false_and]
  · have : F.up (s.getD 0 0) = false := by unfold F.up; simp only [c1, decide_false, Bool.false_and]
    simp only [c1, if_false, e1, this, Bool.false_and]



noncomputable def s_rnamed : Summ cod := fun args H => match args, H with
  | [.c (.str s)], [] => .ret (.c (.bool (F.named s)), [])
  | _, _ => .fail


theorem rnamed_sound : Sound Try.prog cod 9 s_rnamed := sound_runs (cfg := C_cname) L_cname_ok mixed Try.func9 rfl rfl _ fun args H r news hg b0 hb => by
  unfold s_rnamed at hg
  split at hg
  · skip
    cases hg
    exact rnamed_run _ b0 hb 
  · exact hg.elim

noncomputable def L_rnamed : Sums cod := (9, .p s_rnamed) :: L_cname
noncomputable def C_rnamed : Cfg cod := mkC L_rnamed

theorem L_rnamed_ok : Snd Try.prog cod L_rnamed := .cons rnamed_sound L_cname_ok


end
end Go.Proofs.Ytkfkfihjdohjfaa
