/- Part of a claim: lemmas on the way to its theorem; each states its own conditions. -/
import Derived.Test.YtffcfbamcaoidaaGa
namespace Go.Proofs.Ytffcfbamcaoidaa
open Sym Go.RowKit
noncomputable section
set_option maxRecDepth 100000
set_option maxHeartbeats 4000000

namespace F
def up (c : UInt8) : Bool := decide (65 ≤ (c.toNat : Int)) && decide ((c.toNat : Int) ≤ 90)
def dig (c : UInt8) : Bool := decide (48 ≤ (c.toNat : Int)) && decide ((c.toNat : Int) ≤ 57)
def nm (first : Bool) : List UInt8 → Bool
  | [] => true
  | c :: r => (up c || (!first && dig c)) && nm false r
def named (s : List UInt8) : Bool := decide (1 ≤ s.length) && (decide (s.length ≤ 8) && nm true s)
def idxGo (v : List UInt8) : List (List UInt8) → Int → Int
  | [], _ => -1
  | x :: r, i => if v = x then i else idxGo v r (i + 1)
def verbs : List (List UInt8) := [[104, 101, 105, 103, 104, 116], [104, 101, 97, 100, 105, 110, 103], [115, 112, 101, 101, 100], [100, 105, 114, 101, 99, 116], [104, 111, 108, 100], [99, 111, 110, 116, 97, 99, 116], [108, 97, 110, 100], [111, 102, 102, 101, 114], [97, 99, 99, 101, 112, 116], [100, 114, 111, 112]]
end F


theorem nm_up {c : UInt8} {r : List UInt8} {first : Bool} : F.nm first (c :: r) = ((F.up c || (!first && F.dig c)) && F.nm false r) := rfl
theorem map_getD (s : List UInt8) (k : Nat) (h : k < s.length) : (List.map (fun b => (UInt8.toNat b : Int)) s).getD k 0 = ((s.getD k 0).toNat : Int) := by
  simp [List.getD, List.getElem?_eq_getElem h]


def cuts_cname : Cuts := [(4, [14, 15, 16], 1)]

theorem cname_t0 (s : List UInt8) : symF C_divdown cuts_cname Try.f70.results.toList 0 400 [.code (codeOf Try.f70)] ⟨argsS Try.f70 [.c (.str s)], ([] : Heap cod)⟩ =
 cond (decide (Int.ofNat (List.length s) < 1)) (
 .ret (.fin (.c (.bool false)) [])) (
 cond (decide (8 < Int.ofNat (List.length s))) (
  .ret (.fin (.c (.bool false)) [])) (
  .need (((∀ (n : Int), (cod 9).ok [Cell.int IntKind.u8 n] = true) ∧ List.length s ≤ 1000000)) (
  .ret (.cut (cutAt Try.f70 4) ⟨tmG 24 [(14, .c (.slc 0 0 (List.length s) false)), (0, .c (.int .i64 (Int.ofNat (List.length s)))), (0, .c (.int .i64 0))], [.inp 9 (List.map (fun b => Int.ofNat (UInt8.toNat b)) s)]⟩)))) := by kernel_rfl


noncomputable def st_cname_4 (s : List UInt8) (i : Int) : St cod := ⟨tmG 24 [(14, .c (.slc 0 0 (List.length s) false)), (0, .c (.int .i64 (Int.ofNat (List.length s)))), (0, .c (.int .i64 i))], [.inp 9 (List.map (fun b => Int.ofNat (UInt8.toNat b)) s)]⟩


theorem cname_t4 (s : List UInt8) (i : Int) : symF C_divdown cuts_cname Try.f70.results.toList 0 400 (cutAt Try.f70 4) (st_cname_4 s i) =
 cond (decide (i < Int.ofNat (List.length s))) (
 .need (((0 : Int) ≤ i ∧ i < Int.ofNat (List.length s))) (
 .need (0 + Int.toNat i < List.length (List.map (fun b => Int.ofNat (UInt8.toNat b)) s)) (
 cond (decide (65 ≤ List.getD (List.map (fun b => Int.ofNat (UInt8.toNat b)) s) (0 + Int.toNat i) (cod 9).d)) (
  cond (decide (List.getD (List.map (fun b => Int.ofNat (UInt8.toNat b)) s) (0 + Int.toNat i) (cod 9).d ≤ 90)) (
   .need (i64ok (i + 1)) (
   .ret (.cut (cutAt Try.f70 4) ⟨tmG 24 [(14, .c (.slc 0 0 (List.length s) false)), (0, .c (.int .i64 (Int.ofNat (List.length s)))), (0, .c (.int .i64 (i + 1)))], [.inp 9 (List.map (fun b => Int.ofNat (UInt8.toNat b)) s)]⟩))) (
   cond (decide (0 < i)) (
    cond (decide (48 ≤ List.getD (List.map (fun b => Int.ofNat (UInt8.toNat b)) s) (0 + Int.toNat i) (cod 9).d)) (
     cond (!decide (List.getD (List.map (fun b => Int.ofNat (UInt8.toNat b)) s) (0 + Int.toNat i) (cod 9).d ≤ 57)) (
      .ret (.fin (.c (.bool false)) [])) (
      .need (i64ok (i + 1)) (
      .ret (.cut (cutAt Try.f70 4) ⟨tmG 24 [(14, .c (.slc 0 0 (List.length s) false)), (0, .c (.int .i64 (Int.ofNat (List.length s)))), (0, .c (.int .i64 (i + 1)))], [.inp 9 (List.map (fun b => Int.ofNat (UInt8.toNat b)) s)]⟩)))) (
     .ret (.fin (.c (.bool false)) []))) (
    .ret (.fin (.c (.bool false)) [])))) (
  cond (decide (0 < i)) (
   cond (decide (48 ≤ List.getD (List.map (fun b => Int.ofNat (UInt8.toNat b)) s) (0 + Int.toNat i) (cod 9).d)) (
    cond (!decide (List.getD (List.map (fun b => Int.ofNat (UInt8.toNat b)) s) (0 + Int.toNat i) (cod 9).d ≤ 57)) (
     .ret (.fin (.c (.bool false)) [])) (
     .need (i64ok (i + 1)) (
     .ret (.cut (cutAt Try.f70 4) ⟨tmG 24 [(14, .c (.slc 0 0 (List.length s) false)), (0, .c (.int .i64 (Int.ofNat (List.length s)))), (0, .c (.int .i64 (i + 1)))], [.inp 9 (List.map (fun b => Int.ofNat (UInt8.toNat b)) s)]⟩)))) (
    .ret (.fin (.c (.bool false)) []))) (
   .ret (.fin (.c (.bool false)) [])))))) (
 .ret (.fin (.c (.bool true)) [])) := by kernel_rfl



theorem cname_loop (s : List UInt8) (hs : s.length ≤ 8) (b0 : Base) (hb : b0.n = 0) (u : Bool) : ∀ (m : Nat) (i : Int), 0 ≤ i → i + m = s.length → u = F.nm (decide (i = 0)) (s.drop i.toNat) →
    Sym.Runs Try.prog b0 (cutAt Try.f70 4) (st_cname_4 s i) (Sym.Ends Try.prog Try.f70 0 (.c (.bool u)) []) := by
  have hd : (cod 9).d = (0 : Int) := rfl
  intro m
  induction m with
  | zero =>
    intro i h0 hm hu
    refine Runs.go (cfg := C_divdown) L_divdown_ok mixed cuts_cname 400 hb (cname_t4 s i) ?_
    have h1 : ¬ i < (s.length : Int) := by omega
    rw [drop_end s h1] at hu
    simp only [T.wp, T.wp_cond, Aft, Int.ofNat_eq_natCast, decide_eq_true_eq, and_true, true_and, Nat.zero_add, Bool.not_eq_true', decide_eq_false_iff_not, h1, if_false, hu, F.nm]
  | succ m ih =>
    intro i h0 hm hu
    refine Runs.go (cfg := C_divdown) L_divdown_ok mixed cuts_cname 400 hb (cname_t4 s i) ?_
    have h1 : i < (s.length : Int) := by omega
    have k1 : i.toNat < s.length := by omega
    rw [drop_at s 0 h0 h1, nm_up] at hu
    have nx := ih (i + 1) (by omega) (by omega)
    rw [show decide (i + 1 = 0) = false by simp; omega] at nx
    simp only [T.wp, T.wp_cond, Aft, Int.ofNat_eq_natCast, decide_eq_true_eq, and_true, true_and, Nat.zero_add, Bool.not_eq_true', decide_eq_false_iff_not, h1, if_true, hd, map_getD s i.toNat k1, List.length_map]
    unfold F.up F.dig at hu
    generalize s.getD i.toNat 0 = c at *
    refine ⟨h0, k1, ?_⟩
    have hi : i64ok (i + 1) := by unfold i64ok; omega
    have c0 : 0 < i ∧ ¬ i = 0 ∨ ¬ 0 < i ∧ i = 0 := by omega
    by_cases c1 : 65 ≤ (c.toNat : Int) <;> by_cases c2 : (c.toNat : Int) ≤ 90 <;> by_cases c3 : 48 ≤ (c.toNat : Int) <;> by_cases c4 : (c.toNat : Int) ≤ 57 <;> rcases c0 with ⟨c5, c6⟩ | ⟨c5, c6⟩ <;>
      simp only [c1, c2, c3, c4, c5, if_true, if_false, hi, true_and, not_true_eq_false, not_false_eq_true] <;>
      first
        | (refine nx ?_; rw [hu]; simp [c1, c2, c3, c4, c6]; done)
        | (rw [hu]; simp [c1, c2, c3, c4, c6]; done)
theorem cname_run (s : List UInt8) (b0 : Base) (hb : b0.n = 0)  : Sym.Runs Try.prog b0 [.code (codeOf Try.f70)] ⟨argsS Try.f70 [.c (.str s)], ([] : Heap cod)⟩ (Sym.Ends Try.prog Try.f70 0 (.c (.bool (F.named s))) []) := by
  refine Runs.go (cfg := C_divdown) L_divdown_ok mixed cuts_cname 400 hb (cname_t0 s) ?_
  have hok : ∀ n : Int, (cod 9).ok [.int .u8 n] = true := fun _ => rfl
  unfold F.named
  simp only [T.wp, T.wp_cond, Aft, Int.ofNat_eq_natCast, decide_eq_true_eq, and_true, true_and, Nat.zero_add, Bool.not_eq_true', decide_eq_false_iff_not]
  by_cases h1 : (s.length : Int) < 1
  · simp [h1, show ¬ 1 ≤ s.length by omega]
  by_cases h2 : (8 : Int) < s.length
  · simp [h1, h2, show ¬ s.length ≤ 8 by omega]
  simp only [h1, h2, if_false, show 1 ≤ s.length by omega, show s.length ≤ 8 by omega, decide_true, Bool.true_and]
  exact ⟨⟨hok, by omega⟩, cname_loop s (by omega) b0 hb _ s.length 0 (by omega) (by omega) rfl⟩



noncomputable def s_cname : Summ cod := fun args H => match args, H with
  | [.c (.str s)], [] => .ret (.c (.bool (F.named s)), [])
  | _, _ => .fail


theorem cname_sound : Sound Try.prog cod 70 s_cname := sound_runs (cfg := C_divdown) L_divdown_ok mixed Try.func70 rfl rfl _ fun args H r news hg b0 hb => by
  unfold s_cname at hg
  split at hg
  · skip
    cases hg
    exact cname_run _ b0 hb 
  · exact hg.elim

noncomputable def L_cname : Sums cod := (70, s_cname) :: L_divdown
noncomputable def C_cname : Cfg cod := mkC L_cname

theorem L_cname_ok : Snd Try.prog cod L_cname := .cons cname_sound L_divdown_ok



def cuts_rnamed : Cuts := [(4, [0, 25, 26], 0)]

theorem rnamed_t0 (s : List UInt8) : symF C_cname cuts_rnamed Try.f19.results.toList 0 400 [.code (codeOf Try.f19)] ⟨argsS Try.f19 [.c (.str s)], ([] : Heap cod)⟩ =
 cond (decide (Int.ofNat (List.length s) < 1)) (
 .ret (.fin (.c (.bool false)) [])) (
 cond (decide (8 < Int.ofNat (List.length s))) (
  .ret (.fin (.c (.bool false)) [])) (
  .need (((0 : Int) ≤ 0 ∧ (0 : Int) < Int.ofNat (List.length s))) (
  cond (decide (65 ≤ Int.ofNat (UInt8.toNat (List.getD s (Int.toNat 0) 0)))) (
   .need (((0 : Int) ≤ 0 ∧ (0 : Int) < Int.ofNat (List.length s))) (
   cond (!decide (Int.ofNat (UInt8.toNat (List.getD s (Int.toNat 0) 0)) ≤ 90)) (
    .ret (.fin (.c (.bool false)) [])) (
    .ret (.cut (cutAt Try.f19 4) ⟨tmG 22 [(0, .c (.str s)), (24, .c (.int .i64 (Int.ofNat (List.length s)))), (0, .c (.int .i64 0))], []⟩)))) (
   .ret (.fin (.c (.bool false)) []))))) := by kernel_rfl


noncomputable def st_rnamed_4 (s : List UInt8) (i : Int) : St cod := ⟨tmG 22 [(0, .c (.str s)), (24, .c (.int .i64 (Int.ofNat (List.length s)))), (0, .c (.int .i64 i))], []⟩


theorem rnamed_t4 (s : List UInt8) (i : Int) : symF C_cname cuts_rnamed Try.f19.results.toList 0 400 (cutAt Try.f19 4) (st_rnamed_4 s i) =
 cond (decide (i < Int.ofNat (List.length s))) (
 .need (((0 : Int) ≤ i ∧ i < Int.ofNat (List.length s))) (
 cond (decide (65 ≤ Int.ofNat (UInt8.toNat (List.getD s (Int.toNat i) 0)))) (
  cond (!decide (Int.ofNat (UInt8.toNat (List.getD s (Int.toNat i) 0)) ≤ 90)) (
   cond (decide (48 ≤ Int.ofNat (UInt8.toNat (List.getD s (Int.toNat i) 0)))) (
    cond (!decide (Int.ofNat (UInt8.toNat (List.getD s (Int.toNat i) 0)) ≤ 57)) (
     .ret (.fin (.c (.bool false)) [])) (
     .need (i64ok (i + 1)) (
     .ret (.cut (cutAt Try.f19 4) ⟨tmG 22 [(0, .c (.str s)), (24, .c (.int .i64 (Int.ofNat (List.length s)))), (0, .c (.int .i64 (i + 1)))], []⟩)))) (
    .ret (.fin (.c (.bool false)) []))) (
   .need (i64ok (i + 1)) (
   .ret (.cut (cutAt Try.f19 4) ⟨tmG 22 [(0, .c (.str s)), (24, .c (.int .i64 (Int.ofNat (List.length s)))), (0, .c (.int .i64 (i + 1)))], []⟩)))) (
  cond (decide (48 ≤ Int.ofNat (UInt8.toNat (List.getD s (Int.toNat i) 0)))) (
   cond (!decide (Int.ofNat (UInt8.toNat (List.getD s (Int.toNat i) 0)) ≤ 57)) (
    .ret (.fin (.c (.bool false)) [])) (
    .need (i64ok (i + 1)) (
    .ret (.cut (cutAt Try.f19 4) ⟨tmG 22 [(0, .c (.str s)), (24, .c (.int .i64 (Int.ofNat (List.length s)))), (0, .c (.int .i64 (i + 1)))], []⟩)))) (
   .ret (.fin (.c (.bool false)) []))))) (
 .ret (.fin (.c (.bool true)) [])) := by kernel_rfl



theorem rnamed_loop (s : List UInt8) (hs : s.length ≤ 8) (h0u : F.up (s.getD 0 0) = true) (b0 : Base) (hb : b0.n = 0) (u : Bool) : ∀ (m : Nat) (i : Int), 0 ≤ i → i + m = s.length → u = F.nm (decide (i = 0)) (s.drop i.toNat) →
    Sym.Runs Try.prog b0 (cutAt Try.f19 4) (st_rnamed_4 s i) (Sym.Ends Try.prog Try.f19 0 (.c (.bool u)) []) := by
  intro m
  induction m with
  | zero =>
    intro i h0 hm hu
    refine Runs.go (cfg := C_cname) L_cname_ok mixed cuts_rnamed 400 hb (rnamed_t4 s i) ?_
    have h1 : ¬ i < (s.length : Int) := by omega
    rw [drop_end s h1] at hu
    simp only [T.wp, T.wp_cond, Aft, Int.ofNat_eq_natCast, decide_eq_true_eq, and_true, true_and, Nat.zero_add, Bool.not_eq_true', decide_eq_false_iff_not, h1, if_false, hu, F.nm]
  | succ m ih =>
    intro i h0 hm hu
    refine Runs.go (cfg := C_cname) L_cname_ok mixed cuts_rnamed 400 hb (rnamed_t4 s i) ?_
    have h1 : i < (s.length : Int) := by omega
    rw [drop_at s 0 h0 h1, nm_up] at hu
    have nx := ih (i + 1) (by omega) (by omega)
    rw [show decide (i + 1 = 0) = false by simp; omega] at nx
    have hz : i = 0 → F.up (s.getD i.toNat 0) = true := fun h => by rw [h]; exact h0u
    simp only [T.wp, T.wp_cond, Aft, Int.ofNat_eq_natCast, decide_eq_true_eq, and_true, true_and, Nat.zero_add, Bool.not_eq_true', decide_eq_false_iff_not, h1, if_true]
    unfold F.up F.dig at *
    generalize s.getD i.toNat 0 = c at *
    refine ⟨h0, ?_⟩
    have hi : i64ok (i + 1) := by unfold i64ok; omega
    by_cases c1 : 65 ≤ (c.toNat : Int) <;> by_cases c2 : (c.toNat : Int) ≤ 90 <;> by_cases c3 : 48 ≤ (c.toNat : Int) <;> by_cases c4 : (c.toNat : Int) ≤ 57 <;> by_cases c5 : i = 0 <;>
      simp only [c1, c2, c3, c4, if_true, if_false, hi, true_and, not_true_eq_false, not_false_eq_true] <;>
      first
        | (exfalso; have hh := hz c5; simp [c1, c2] at hh; done)
        | (refine nx ?_; rw [hu]; simp [c1, c2, c3, c4, c5]; done)
        | (rw [hu]; simp [c1, c2, c3, c4, c5]; done)
theorem rnamed_run (s : List UInt8) (b0 : Base) (hb : b0.n = 0)  : Sym.Runs Try.prog b0 [.code (codeOf Try.f19)] ⟨argsS Try.f19 [.c (.str s)], ([] : Heap cod)⟩ (Sym.Ends Try.prog Try.f19 0 (.c (.bool (F.named s))) []) := by
  refine Runs.go (cfg := C_cname) L_cname_ok mixed cuts_rnamed 400 hb (rnamed_t0 s) ?_
  unfold F.named
  simp only [T.wp, T.wp_cond, Aft, Int.ofNat_eq_natCast, decide_eq_true_eq, and_true, true_and, Nat.zero_add, Bool.not_eq_true', decide_eq_false_iff_not]
  by_cases h1 : (s.length : Int) < 1
  · simp [h1, show ¬ 1 ≤ s.length by omega]
  by_cases h2 : (8 : Int) < s.length
  · simp [h1, h2, show ¬ s.length ≤ 8 by omega]
  have e0 : s.drop 0 = s.getD 0 0 :: s.drop 1 := drop_at s 0 (i := 0) (by omega) (by omega)
  rw [List.drop_zero] at e0
  have e1 : F.nm true s = (F.up (s.getD 0 0) && F.nm false (s.drop 1)) := by
    conv => lhs; rw [e0, nm_up]
    simp
  simp only [h1, h2, if_false, show 1 ≤ s.length by omega, show s.length ≤ 8 by omega, decide_true, Bool.true_and, Int.toNat_zero]
  refine ⟨by omega, ?_⟩
  by_cases c1 : 65 ≤ ((s.getD 0 0).toNat : Int)
  · simp only [c1, if_true]
    refine ⟨by omega, ?_⟩
    by_cases c2 : ((s.getD 0 0).toNat : Int) ≤ 90
    · simp only [c2, not_true_eq_false, if_false]
      exact rnamed_loop s (by omega) (by unfold F.up; rw [decide_eq_true c1, decide_eq_true c2]; rfl) b0 hb _ s.length 0 (by omega) (by omega) rfl
    · have : F.up (s.getD 0 0) = false := by unfold F.up; simp only [c2, decide_false, Bool.and_false]
      simp only [c2, not_false_eq_true, if_true, e1, this, Bool.false_and]
  · have : F.up (s.getD 0 0) = false := by unfold F.up; simp only [c1, decide_false, Bool.false_and]
    simp only [c1, if_false, e1, this, Bool.false_and]



noncomputable def s_rnamed : Summ cod := fun args H => match args, H with
  | [.c (.str s)], [] => .ret (.c (.bool (F.named s)), [])
  | _, _ => .fail


theorem rnamed_sound : Sound Try.prog cod 19 s_rnamed := sound_runs (cfg := C_cname) L_cname_ok mixed Try.func19 rfl rfl _ fun args H r news hg b0 hb => by
  unfold s_rnamed at hg
  split at hg
  · skip
    cases hg
    exact rnamed_run _ b0 hb 
  · exact hg.elim

noncomputable def L_rnamed : Sums cod := (19, s_rnamed) :: L_cname
noncomputable def C_rnamed : Cfg cod := mkC L_rnamed

theorem L_rnamed_ok : Snd Try.prog cod L_rnamed := .cons rnamed_sound L_cname_ok



def cuts_sidx : Cuts := [(2, [0, 1, 7, 8], 1)]

theorem sidx_t0 (l : List (List UInt8)) (l_t : Bool) (v : List UInt8) : symF C_rnamed cuts_sidx Try.f98.results.toList 1 400 [.code (codeOf Try.f98)] ⟨argsS Try.f98 [.c (.slc 0 0 (List.length l) l_t), .c (.str v)], ([.inp 5 l] : Heap cod)⟩ =
.ret (.cut (cutAt Try.f98 2) ⟨tmG 10 [(0, .c (.slc 0 0 (List.length l) l_t)), (0, .c (.str v)), (5, .c (.int .i64 (Int.ofNat (List.length l)))), (0, .c (.int .i64 0))], [.inp 5 l]⟩) := by kernel_rfl


noncomputable def st_sidx_2 (l : List (List UInt8)) (l_t : Bool) (v : List UInt8) (i : Int) : St cod := ⟨tmG 10 [(0, .c (.slc 0 0 (List.length l) l_t)), (0, .c (.str v)), (5, .c (.int .i64 (Int.ofNat (List.length l)))), (0, .c (.int .i64 i))], [.inp 5 l]⟩


theorem sidx_t2 (l : List (List UInt8)) (l_t : Bool) (v : List UInt8) (i : Int) : symF C_rnamed cuts_sidx Try.f98.results.toList 1 400 (cutAt Try.f98 2) (st_sidx_2 l l_t v i) =
 cond (decide (i < Int.ofNat (List.length l))) (
 .need (((0 : Int) ≤ i ∧ i < Int.ofNat (List.length l))) (
 .need (0 + Int.toNat i < List.length l) (
 cond (decide (v = List.getD l (0 + Int.toNat i) (cod 5).d)) (
  .ret (.fin (.c (.int .i64 i)) [])) (
  .need (i64ok (i + 1)) (
  .ret (.cut (cutAt Try.f98 2) ⟨tmG 10 [(0, .c (.slc 0 0 (List.length l) l_t)), (0, .c (.str v)), (5, .c (.int .i64 (Int.ofNat (List.length l)))), (0, .c (.int .i64 (i + 1)))], [.inp 5 l]⟩)))))) (
 .ret (.fin (.c (.int .i64 (-1))) [])) := by kernel_rfl



theorem sidx_loop (l : List (List UInt8)) (l_t : Bool) (v : List UInt8) (hl : l.length ≤ 1000000) (b0 : Base) (hb : b0.n = 1) (u : Int) : ∀ (m : Nat) (i : Int), 0 ≤ i → i + m = l.length → u = F.idxGo v (l.drop i.toNat) i →
    Sym.Runs Try.prog b0 (cutAt Try.f98 2) (st_sidx_2 l l_t v i) (Sym.Ends Try.prog Try.f98 1 (.c (.int .i64 u)) []) := by
  have hd : (cod 5).d = ([] : List UInt8) := rfl
  intro m
  induction m with
  | zero =>
    intro i h0 hm hu
    refine Runs.go (cfg := C_rnamed) L_rnamed_ok mixed cuts_sidx 400 hb (sidx_t2 l l_t v i) ?_
    have h1 : ¬ i < (l.length : Int) := by omega
    rw [drop_end l h1] at hu
    simp only [T.wp, T.wp_cond, Aft, Int.ofNat_eq_natCast, decide_eq_true_eq, and_true, true_and, Nat.zero_add, Bool.not_eq_true', decide_eq_false_iff_not, h1, if_false, hu, F.idxGo]
  | succ m ih =>
    intro i h0 hm hu
    refine Runs.go (cfg := C_rnamed) L_rnamed_ok mixed cuts_sidx 400 hb (sidx_t2 l l_t v i) ?_
    have h1 : i < (l.length : Int) := by omega
    rw [drop_at l [] h0 h1] at hu
    simp only [F.idxGo] at hu
    have nx := ih (i + 1) (by omega) (by omega)
    simp only [T.wp, T.wp_cond, Aft, Int.ofNat_eq_natCast, decide_eq_true_eq, and_true, true_and, Nat.zero_add, Bool.not_eq_true', decide_eq_false_iff_not, h1, if_true, hd]
    refine ⟨h0, by omega, ?_⟩
    by_cases e : v = l.getD i.toNat []
    · rw [if_pos e] at hu
      rw [if_pos e, hu]
    · rw [if_neg e] at hu
      rw [if_neg e]
      exact ⟨by unfold i64ok; omega, nx hu⟩
theorem sidx_run (l : List (List UInt8)) (l_t : Bool) (v : List UInt8) (b0 : Base) (hb : b0.n = 1) (h0 : l.length ≤ 1000000) : Sym.Runs Try.prog b0 [.code (codeOf Try.f98)] ⟨argsS Try.f98 [.c (.slc 0 0 (List.length l) l_t), .c (.str v)], ([.inp 5 l] : Heap cod)⟩ (Sym.Ends Try.prog Try.f98 1 (.c (.int .i64 (F.idxGo v l 0))) []) := by
  refine Runs.go (cfg := C_rnamed) L_rnamed_ok mixed cuts_sidx 400 hb (sidx_t0 l l_t v) ?_
  simp only [T.wp, T.wp_cond, Aft, Int.ofNat_eq_natCast, decide_eq_true_eq, and_true, true_and, Nat.zero_add, Bool.not_eq_true', decide_eq_false_iff_not]
  exact sidx_loop l l_t v h0 b0 hb _ l.length 0 (by omega) (by omega) rfl



noncomputable def s_sidx : Summ cod := fun args H => match args, H with
  | [.c (.slc 0 l_i l_n l_t), .c (.str v)], [o0] => (match o0.asInp 5 with | some l => .need ((l_i = 0 ∧ l_n = List.length l) ∧ (l.length ≤ 1000000)) (.ret (.c (.int .i64 (F.idxGo v l 0)), [])) | none => .fail)
  | _, _ => .fail


theorem sidx_sound : Sound Try.prog cod 98 s_sidx := sound_runs (cfg := C_rnamed) L_rnamed_ok mixed Try.func98 rfl rfl _ fun args H r news hg b0 hb => by
  unfold s_sidx at hg
  split at hg
  · skip
    split at hg
    · rename_i l hx0
      cases asInp_spec hx0
      simp only [T.gives, T.wp, Prod.mk.injEq] at hg
      obtain ⟨⟨⟨rfl, rfl⟩, q1⟩, rfl, rfl⟩ := hg
      exact sidx_run _ _ _ b0 hb (by assumption)
    · exact hg.elim
  · exact hg.elim

noncomputable def L_sidx : Sums cod := (98, s_sidx) :: L_rnamed
noncomputable def C_sidx : Cfg cod := mkC L_sidx

theorem L_sidx_ok : Snd Try.prog cod L_sidx := .cons sidx_sound L_rnamed_ok



def cuts_verbs : Cuts := []

theorem verbs_t0  : symF C_sidx cuts_verbs Try.f95.results.toList 0 400 [.code (codeOf Try.f95)] ⟨argsS Try.f95 [], ([] : Heap cod)⟩ =
.ret (.fin (.c (.slc 0 0 10 true)) [.arr 5 ([[104, 101, 105, 103, 104, 116], [104, 101, 97, 100, 105, 110, 103], [115, 112, 101, 101, 100],   [100, 105, 114, 101, 99, 116], [104, 111, 108, 100], [99, 111, 110, 116, 97, 99, 116], [108, 97, 110, 100],   [111, 102, 102, 101, 114], [97, 99, 99, 101, 112, 116], [100, 114, 111, 112]]) 9]) := by kernel_rfl



theorem verbs_run  (b0 : Base) (hb : b0.n = 0)  : Sym.Runs Try.prog b0 [.code (codeOf Try.f95)] ⟨argsS Try.f95 [], ([] : Heap cod)⟩ (Sym.Ends Try.prog Try.f95 0 (.c (.slc 0 0 10 true)) [.arr 5 F.verbs 9]) := by
  refine Runs.go (cfg := C_sidx) L_sidx_ok mixed cuts_verbs 400 hb verbs_t0 ?_
  exact ⟨rfl, rfl⟩



noncomputable def s_verbs : Summ cod := fun args H => match args, H with
  | [], [] => .ret (.c (.slc 0 0 10 true), [.arr 5 F.verbs 9])
  | _, _ => .fail


theorem verbs_sound : Sound Try.prog cod 95 s_verbs := sound_runs (cfg := C_sidx) L_sidx_ok mixed Try.func95 rfl rfl _ fun args H r news hg b0 hb => by
  unfold s_verbs at hg
  split at hg
  · skip
    cases hg
    exact verbs_run  b0 hb 
  · exact hg.elim

noncomputable def L_verbs : Sums cod := (95, s_verbs) :: L_sidx
noncomputable def C_verbs : Cfg cod := mkC L_verbs

theorem L_verbs_ok : Snd Try.prog cod L_verbs := .cons verbs_sound L_sidx_ok



namespace F
def verb (v : List UInt8) : Int := idxGo v verbs 0
end F


def cuts_verb : Cuts := []

theorem verb_t0 (v : List UInt8) : symF C_verbs cuts_verb Try.f69.results.toList 0 400 [.code (codeOf Try.f69)] ⟨argsS Try.f69 [.c (.str v)], ([] : Heap cod)⟩ =
.need (((0 = 0 ∧ 10 = List.length F.verbs) ∧ (List.length F.verbs : Nat) ≤ 1000000)) (
.ret (.fin (.c (.int .i64 (F.idxGo v F.verbs 0))) [])) := by kernel_rfl



theorem verb_run (v : List UInt8) (b0 : Base) (hb : b0.n = 0)  : Sym.Runs Try.prog b0 [.code (codeOf Try.f69)] ⟨argsS Try.f69 [.c (.str v)], ([] : Heap cod)⟩ (Sym.Ends Try.prog Try.f69 0 (.c (.int .i64 (F.verb v))) []) := by
  refine Runs.go (cfg := C_verbs) L_verbs_ok mixed cuts_verb 400 hb (verb_t0 v) ?_
  simp only [T.wp, T.wp_cond, Aft, Int.ofNat_eq_natCast, decide_eq_true_eq, and_true, true_and, Nat.zero_add, Bool.not_eq_true', decide_eq_false_iff_not]
  exact ⟨by decide, rfl⟩



noncomputable def s_verb : Summ cod := fun args H => match args, H with
  | [.c (.str v)], [] => .ret (.c (.int .i64 (F.verb v)), [])
  | _, _ => .fail


theorem verb_sound : Sound Try.prog cod 69 s_verb := sound_runs (cfg := C_verbs) L_verbs_ok mixed Try.func69 rfl rfl _ fun args H r news hg b0 hb => by
  unfold s_verb at hg
  split at hg
  · skip
    cases hg
    exact verb_run _ b0 hb 
  · exact hg.elim

noncomputable def L_verb : Sums cod := (69, s_verb) :: L_verbs
noncomputable def C_verb : Cfg cod := mkC L_verb

theorem L_verb_ok : Snd Try.prog cod L_verb := .cons verb_sound L_verbs_ok


noncomputable def s_hasnum : Summ cod := fun args H => match H with
  | [] => match rd args with
    | some [[v]] => (.ret (.c (.bool (decide (v ≤ 2))), []))
    | _ => .fail
  | _ => .fail

theorem hasnum_tree (v : Int) : symF C_verb [] Try.f72.results.toList (List.length ([] : Heap cod)) 400 [.code (codeOf Try.f72)] ⟨argsS Try.f72 [.c (.int .i64 v)], []⟩ =
.ret (.fin (.c (.bool (decide (v ≤ 2)))) []) := by kernel_rfl

theorem hasnum_sound : Sound Try.prog cod 72 s_hasnum := sound_flat (cfg := C_verb) L_verb_ok mixed Try.func72 rfl rfl _ 400 fun args H r news hg => by
  unfold s_hasnum at hg
  split at hg
  · split at hg
    · rename_i v hrd
      have hargs := rd_spec hrd
      simp only [List.map, wr1, ints, List.tail] at hargs
      subst hargs
      clear hrd
      rw [hasnum_tree]
      simp only [T.gives, T.wp, Prod.mk.injEq] at hg
      obtain ⟨rfl, rfl⟩ := hg
      simp only [T.wp, T.wp_cond, Fin.fin.injEq, SV.c.injEq, SV.tup.injEq, SV.agg.injEq, List.cons.injEq, Cell.bool.injEq, Cell.int.injEq, and_true, true_and, decide_eq_true_eq]
    · exact hg.elim
  · exact hg.elim

noncomputable def L_hasnum : Sums cod := (72, s_hasnum) :: L_verb
noncomputable def C_hasnum : Cfg cod := mkC L_hasnum

theorem L_hasnum_ok : Snd Try.prog cod L_hasnum := .cons hasnum_sound L_verb_ok

noncomputable def s_hasfix : Summ cod := fun args H => match H with
  | [] => match rd args with
    | some [[v]] => (.ret (.c (.bool (decide (2 < v) && decide (v ≤ 7))), []))
    | _ => .fail
  | _ => .fail

theorem hasfix_tree (v : Int) : symF C_hasnum [] Try.f71.results.toList (List.length ([] : Heap cod)) 400 [.code (codeOf Try.f71)] ⟨argsS Try.f71 [.c (.int .i64 v)], []⟩ =
 cond (decide (2 < v)) (
 .ret (.fin (.c (.bool (decide (v ≤ 7)))) [])) (
 .ret (.fin (.c (.bool false)) [])) := by kernel_rfl

theorem hasfix_sound : Sound Try.prog cod 71 s_hasfix := sound_flat (cfg := C_hasnum) L_hasnum_ok mixed Try.func71 rfl rfl _ 400 fun args H r news hg => by
  unfold s_hasfix at hg
  split at hg
  · split at hg
    · rename_i v hrd
      have hargs := rd_spec hrd
      simp only [List.map, wr1, ints, List.tail] at hargs
      subst hargs
      clear hrd
      rw [hasfix_tree]
      simp only [T.gives, T.wp, Prod.mk.injEq] at hg
      obtain ⟨rfl, rfl⟩ := hg
      simp only [T.wp, T.wp_cond, Fin.fin.injEq, SV.c.injEq, SV.tup.injEq, SV.agg.injEq, List.cons.injEq, Cell.bool.injEq, Cell.int.injEq, and_true, true_and, decide_eq_true_eq]
      by_cases h : 2 < v <;> simp [h]
    · exact hg.elim
  · exact hg.elim

noncomputable def L_hasfix : Sums cod := (71, s_hasfix) :: L_hasnum
noncomputable def C_hasfix : Cfg cod := mkC L_hasfix

theorem L_hasfix_ok : Snd Try.prog cod L_hasfix := .cons hasfix_sound L_hasnum_ok


namespace F
def most (k : Int) : Int := if k = 0 then 60000 else if k = 1 then 4095 else 400
def cmd (v c : List UInt8) (n : Int) (f : List UInt8) : Int :=
  if verb v < 0 then 5 else if named c = false then 6 else if verb v ≤ 2 then (if f ≠ [] then 3 else if n < 0 ∨ most (verb v) < n then 4 else 0)
  else if verb v ≤ 7 then (if named f = false then 6 else if n ≠ 0 then 3 else 0) else (if f ≠ [] then 3 else if n ≠ 0 then 3 else 0)
def zs (e : Int) (s : List UInt8) : List UInt8 := if e = 0 then s else []
def clrE (v c : List UInt8) (n : Int) (f : List UInt8) : Int := if cmd v c n f = 0 then (if 6 < verb v then 8 else 0) else cmd v c n f
end F


theorem idxGo_bd (v : List UInt8) : ∀ (l : List (List UInt8)) (i : Int), 0 ≤ i → -1 ≤ F.idxGo v l i ∧ F.idxGo v l i < i + l.length
  | [], i, h => by simp only [F.idxGo, List.length_nil]; omega
  | x :: r, i, h => by
    have := idxGo_bd v r (i + 1) (by omega)
    unfold F.idxGo
    rw [List.length_cons]
    split <;> omega
theorem verb_bd (v : List UInt8) : -1 ≤ F.verb v ∧ F.verb v ≤ 9 := by
  have := idxGo_bd v F.verbs 0 (by omega)
  rw [show F.verbs.length = 10 from rfl] at this
  unfold F.verb
  omega


def cuts_ccheck : Cuts := []

theorem ccheck_t0 (v c f : List UInt8) (n : Int) : symF C_hasfix cuts_ccheck Try.f20.results.toList 0 400 [.code (codeOf Try.f20)] ⟨argsS Try.f20 [.agg [.str v, .str c, .int .i64 n, .str f]], ([] : Heap cod)⟩ =
 cond (decide (F.verb v < 0)) (
 .ret (.fin (.c (.int .i64 5)) [])) (
 cond (!F.named c) (
  .ret (.fin (.c (.int .i64 6)) [])) (
  cond (decide (2 < F.verb v) && decide (F.verb v ≤ 7)) (
   cond (!F.named f) (
    .ret (.fin (.c (.int .i64 6)) [])) (
    cond (!(decide (2 < F.verb v) && decide (F.verb v ≤ 7))) (
     cond (!decide (f = [])) (
      .ret (.fin (.c (.int .i64 3)) [])) (
      cond (!decide (F.verb v ≤ 2)) (
       cond (!decide (n = 0)) (
        .ret (.fin (.c (.int .i64 3)) [])) (
        cond (decide (F.verb v ≤ 2)) (
         .need (((0 : Int) ≤ F.verb v ∧ F.verb v < Int.ofNat 3)) (
         .need (0 + Int.toNat (F.verb v) < List.length [60000, 4095, 400]) (
         cond (decide (n < 0)) (
          .ret (.fin (.c (.int .i64 4)) [])) (
          cond (decide (List.getD ([60000, 4095, 400] : List Int) (0 + Int.toNat (F.verb v)) (cod 0).d < n)) (
           .ret (.fin (.c (.int .i64 4)) [])) (
           .ret (.fin (.c (.int .i64 0)) [])))))) (
         .ret (.fin (.c (.int .i64 0)) [])))) (
       cond (decide (F.verb v ≤ 2)) (
        .need (((0 : Int) ≤ F.verb v ∧ F.verb v < Int.ofNat 3)) (
        .need (0 + Int.toNat (F.verb v) < List.length [60000, 4095, 400]) (
        cond (decide (n < 0)) (
         .ret (.fin (.c (.int .i64 4)) [])) (
         cond (decide (List.getD ([60000, 4095, 400] : List Int) (0 + Int.toNat (F.verb v)) (cod 0).d < n)) (
          .ret (.fin (.c (.int .i64 4)) [])) (
          .ret (.fin (.c (.int .i64 0)) [])))))) (
        .ret (.fin (.c (.int .i64 0)) []))))) (
     cond (!decide (F.verb v ≤ 2)) (
      cond (!decide (n = 0)) (
       .ret (.fin (.c (.int .i64 3)) [])) (
       cond (decide (F.verb v ≤ 2)) (
        .need (((0 : Int) ≤ F.verb v ∧ F.verb v < Int.ofNat 3)) (
        .need (0 + Int.toNat (F.verb v) < List.length [60000, 4095, 400]) (
        cond (decide (n < 0)) (
         .ret (.fin (.c (.int .i64 4)) [])) (
         cond (decide (List.getD ([60000, 4095, 400] : List Int) (0 + Int.toNat (F.verb v)) (cod 0).d < n)) (
          .ret (.fin (.c (.int .i64 4)) [])) (
          .ret (.fin (.c (.int .i64 0)) [])))))) (
        .ret (.fin (.c (.int .i64 0)) [])))) (
      cond (decide (F.verb v ≤ 2)) (
       .need (((0 : Int) ≤ F.verb v ∧ F.verb v < Int.ofNat 3)) (
       .need (0 + Int.toNat (F.verb v) < List.length [60000, 4095, 400]) (
       cond (decide (n < 0)) (
        .ret (.fin (.c (.int .i64 4)) [])) (
        cond (decide (List.getD ([60000, 4095, 400] : List Int) (0 + Int.toNat (F.verb v)) (cod 0).d < n)) (
         .ret (.fin (.c (.int .i64 4)) [])) (
         .ret (.fin (.c (.int .i64 0)) [])))))) (
       .ret (.fin (.c (.int .i64 0)) [])))))) (
   cond (!(decide (2 < F.verb v) && decide (F.verb v ≤ 7))) (
    cond (!decide (f = [])) (
     .ret (.fin (.c (.int .i64 3)) [])) (
     cond (!decide (F.verb v ≤ 2)) (
      cond (!decide (n = 0)) (
       .ret (.fin (.c (.int .i64 3)) [])) (
       cond (decide (F.verb v ≤ 2)) (
        .need (((0 : Int) ≤ F.verb v ∧ F.verb v < Int.ofNat 3)) (
        .need (0 + Int.toNat (F.verb v) < List.length [60000, 4095, 400]) (
        cond (decide (n < 0)) (
         .ret (.fin (.c (.int .i64 4)) [])) (
         cond (decide (List.getD ([60000, 4095, 400] : List Int) (0 + Int.toNat (F.verb v)) (cod 0).d < n)) (
          .ret (.fin (.c (.int .i64 4)) [])) (
          .ret (.fin (.c (.int .i64 0)) [])))))) (
        .ret (.fin (.c (.int .i64 0)) [])))) (
      cond (decide (F.verb v ≤ 2)) (
       .need (((0 : Int) ≤ F.verb v ∧ F.verb v < Int.ofNat 3)) (
       .need (0 + Int.toNat (F.verb v) < List.length [60000, 4095, 400]) (
       cond (decide (n < 0)) (
        .ret (.fin (.c (.int .i64 4)) [])) (
        cond (decide (List.getD ([60000, 4095, 400] : List Int) (0 + Int.toNat (F.verb v)) (cod 0).d < n)) (
         .ret (.fin (.c (.int .i64 4)) [])) (
         .ret (.fin (.c (.int .i64 0)) [])))))) (
       .ret (.fin (.c (.int .i64 0)) []))))) (
    cond (!decide (F.verb v ≤ 2)) (
     cond (!decide (n = 0)) (
      .ret (.fin (.c (.int .i64 3)) [])) (
      cond (decide (F.verb v ≤ 2)) (
       .need (((0 : Int) ≤ F.verb v ∧ F.verb v < Int.ofNat 3)) (
       .need (0 + Int.toNat (F.verb v) < List.length [60000, 4095, 400]) (
       cond (decide (n < 0)) (
        .ret (.fin (.c (.int .i64 4)) [])) (
        cond (decide (List.getD ([60000, 4095, 400] : List Int) (0 + Int.toNat (F.verb v)) (cod 0).d < n)) (
         .ret (.fin (.c (.int .i64 4)) [])) (
         .ret (.fin (.c (.int .i64 0)) [])))))) (
       .ret (.fin (.c (.int .i64 0)) [])))) (
     cond (decide (F.verb v ≤ 2)) (
      .need (((0 : Int) ≤ F.verb v ∧ F.verb v < Int.ofNat 3)) (
      .need (0 + Int.toNat (F.verb v) < List.length [60000, 4095, 400]) (
      cond (decide (n < 0)) (
       .ret (.fin (.c (.int .i64 4)) [])) (
       cond (decide (List.getD ([60000, 4095, 400] : List Int) (0 + Int.toNat (F.verb v)) (cod 0).d < n)) (
        .ret (.fin (.c (.int .i64 4)) [])) (
        .ret (.fin (.c (.int .i64 0)) [])))))) (
      .ret (.fin (.c (.int .i64 0)) []))))))) := by kernel_rfl



theorem ccheck_run (v c f : List UInt8) (n : Int) (b0 : Base) (hb : b0.n = 0)  : Sym.Runs Try.prog b0 [.code (codeOf Try.f20)] ⟨argsS Try.f20 [.agg [.str v, .str c, .int .i64 n, .str f]], ([] : Heap cod)⟩ (Sym.Ends Try.prog Try.f20 0 (.c (.int .i64 (F.cmd v c n f))) []) := by
  have hv := verb_bd v
  refine Runs.go (cfg := C_hasfix) L_hasfix_ok mixed cuts_ccheck 400 hb (ccheck_t0 v c f n) ?_
  have hd : (cod 0).d = (0 : Int) := rfl
  unfold F.cmd F.most
  generalize F.verb v = k at *
  simp only [T.wp, T.wp_cond, Aft, Int.ofNat_eq_natCast, decide_eq_true_eq, and_true, true_and, Nat.zero_add, Bool.not_eq_true', decide_eq_false_iff_not, hd, List.length_cons, List.length_nil]
  by_cases k0 : k < 0
  · simp [k0]
  by_cases c0 : F.named c = true
  rotate_left
  · simp [k0, c0]
  have hk : k = 0 ∨ k = 1 ∨ k = 2 ∨ (2 < k ∧ k ≤ 7) ∨ 7 < k := by omega
  rcases hk with rfl | rfl | rfl | hk | hk
  · by_cases f0 : f = [] <;> by_cases n0 : n < 0 <;> by_cases n1 : 60000 < n <;> simp [c0, f0, n0, n1]
  · by_cases f0 : f = [] <;> by_cases n0 : n < 0 <;> by_cases n1 : 4095 < n <;> simp [c0, f0, n0, n1]
  · by_cases f0 : f = [] <;> by_cases n0 : n < 0 <;> by_cases n1 : 400 < n <;> simp [c0, f0, n0, n1]
  · have k2 : ¬ k ≤ 2 := by omega
    by_cases f0 : F.named f = true <;> by_cases n0 : n = 0 <;> simp [k0, c0, f0, n0, hk, k2]
  · have k2 : ¬ k ≤ 2 := by omega
    have k3 : ¬ k ≤ 7 := by omega
    by_cases f0 : f = [] <;> by_cases n0 : n = 0 <;> simp [k0, c0, f0, n0, k2, k3]



noncomputable def s_ccheck : Summ cod := fun args H => match args, H with
  | [.agg [.str v, .str c, .int .i64 n, .str f]], [] => .ret (.c (.int .i64 (F.cmd v c n f)), [])
  | _, _ => .fail


theorem ccheck_sound : Sound Try.prog cod 20 s_ccheck := sound_runs (cfg := C_hasfix) L_hasfix_ok mixed Try.func20 rfl rfl _ fun args H r news hg b0 hb => by
  unfold s_ccheck at hg
  split at hg
  · skip
    cases hg
    exact ccheck_run _ _ _ _ b0 hb 
  · exact hg.elim

noncomputable def L_ccheck : Sums cod := (20, s_ccheck) :: L_hasfix
noncomputable def C_ccheck : Cfg cod := mkC L_ccheck

theorem L_ccheck_ok : Snd Try.prog cod L_ccheck := .cons ccheck_sound L_hasfix_ok



def cuts_clr : Cuts := []

theorem clr_t0 (v c f : List UInt8) (n : Int) : symF C_ccheck cuts_clr Try.f18.results.toList 0 400 [.code (codeOf Try.f18)] ⟨argsS Try.f18 [.agg [.str v, .str c, .int .i64 n, .str f]], ([] : Heap cod)⟩ =
 cond (!decide (F.cmd v c n f = 0)) (
 .ret (.fin (.tup [.agg [.str [], .int .i64 0, .int .i64 0, .str []], .c (.int .i64 (F.cmd v c n f))]) [])) (
 cond (decide (6 < F.verb v)) (
  .ret (.fin (.tup [.agg [.str [], .int .i64 0, .int .i64 0, .str []], .c (.int .i64 8)]) [])) (
  .ret (.fin (.tup [.agg [.str c, .int .i64 (F.verb v), .int .i64 n, .str f], .c (.int .i64 0)]) []))) := by kernel_rfl



theorem clr_run (v c f : List UInt8) (n : Int) (b0 : Base) (hb : b0.n = 0)  : Sym.Runs Try.prog b0 [.code (codeOf Try.f18)] ⟨argsS Try.f18 [.agg [.str v, .str c, .int .i64 n, .str f]], ([] : Heap cod)⟩ (Sym.Ends Try.prog Try.f18 0 (.tup [.agg [.str (F.zs (F.clrE v c n f) c), .int .i64 (F.z (F.clrE v c n f) (F.verb v)), .int .i64 (F.z (F.clrE v c n f) n), .str (F.zs (F.clrE v c n f) f)], .c (.int .i64 (F.clrE v c n f))]) []) := by
  refine Runs.go (cfg := C_ccheck) L_ccheck_ok mixed cuts_clr 400 hb (clr_t0 v c f n) ?_
  unfold F.clrE
  simp only [T.wp, T.wp_cond, Aft, Int.ofNat_eq_natCast, decide_eq_true_eq, and_true, true_and, Nat.zero_add, Bool.not_eq_true', decide_eq_false_iff_not]
  by_cases h : F.cmd v c n f = 0
  · by_cases h6 : 6 < F.verb v <;> simp [h, h6, F.z, F.zs]
  · simp [h, F.z, F.zs]



noncomputable def s_clr : Summ cod := fun args H => match args, H with
  | [.agg [.str v, .str c, .int .i64 n, .str f]], [] => .ret (.tup [.agg [.str (F.zs (F.clrE v c n f) c), .int .i64 (F.z (F.clrE v c n f) (F.verb v)), .int .i64 (F.z (F.clrE v c n f) n), .str (F.zs (F.clrE v c n f) f)], .c (.int .i64 (F.clrE v c n f))], [])
  | _, _ => .fail


theorem clr_sound : Sound Try.prog cod 18 s_clr := sound_runs (cfg := C_ccheck) L_ccheck_ok mixed Try.func18 rfl rfl _ fun args H r news hg b0 hb => by
  unfold s_clr at hg
  split at hg
  · skip
    cases hg
    exact clr_run _ _ _ _ b0 hb 
  · exact hg.elim

noncomputable def L_clr : Sums cod := (18, s_clr) :: L_ccheck
noncomputable def C_clr : Cfg cod := mkC L_clr

theorem L_clr_ok : Snd Try.prog cod L_clr := .cons clr_sound L_ccheck_ok


end
end Go.Proofs.Ytffcfbamcaoidaa
