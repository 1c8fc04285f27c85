/- Part of a claim: lemmas on the way to its theorem; each states its own conditions. -/
import Derived.Test.YtbkpgpkeecnjpaaFr
import Derived.Test.YtbkpgpkeecnjpaaHr
import Derived.Test.YtbkpgpkeecnjpaaSym22
namespace Go.Proofs.Ytbkpgpkeecnjpaa
open Sym Go.RowKit
noncomputable section
set_option maxRecDepth 100000
set_option maxHeartbeats 4000000

namespace F
abbrev C6 := Int × Int × Int × Int × Int × Int
def d6 : C6 := (0, 0, 0, 0, 0, 0)
def idxN (p : C6 → Bool) (l : List C6) : Nat → Nat → Int → Int
  | 0, _, _ => -1
  | m + 1, j, i => if p (l.getD j d6) then i else idxN p l m (j + 1) (i + 1)
def sid (a : Int) (x : C6) : Bool := decide (x.1 = a)
def site6 (x : C6) : Int := site x.1 x.2.1 x.2.2.1 x.2.2.2.1 x.2.2.2.2.1 x.2.2.2.2.2
def cov6 (px py : Int) (x : C6) : Bool := cov x.1 x.2.1 x.2.2.1 x.2.2.2.1 x.2.2.2.2.1 x.2.2.2.2.2 px py
def covE6 (px py : Int) (x : C6) : Int := covE x.1 x.2.1 x.2.2.1 x.2.2.2.1 x.2.2.2.2.1 x.2.2.2.2.2 px py
def mck (l : List C6) : Nat → Nat → Int
  | 0, _ => 0
  | m + 1, j => if site6 (l.getD j d6) ≠ 0 then site6 (l.getD j d6) else (if (l.take j).any (sid (l.getD j d6).1) then 7 else mck l m (j + 1))
def mchk (l : List C6) : Int := if 4 < l.length then 2 else mck l l.length 0
end F


def cuts_chk1 : Cuts := []

theorem chk1_t0 (x1 x2 x3 x4 x5 x6 : Int) (a b c d e f : Int) : symF C_rsite cuts_chk1 Try.f81.results.toList 1 400 [.code (codeOf Try.f81)] ⟨argsS Try.f81 [.agg [.int .i64 x1, .int .i64 x2, .int .i64 x3, .int .i64 x4, .int .i64 x5, .int .i64 x6], .c (.ptr 0 0 0)], ([.rblk [.int .i64 a, .int .i64 b, .int .i64 c, .int .i64 d, .int .i64 e, .int .i64 f]] : Heap cod)⟩ =
.ret (.fin (.c (.bool (decide (x1 = a)))) []) := by kernel_rfl



theorem chk1_run (x1 x2 x3 x4 x5 x6 : Int) (a b c d e f : Int) (b0 : Base) (hb : b0.n = 1)  : Sym.Runs Try.prog b0 [.code (codeOf Try.f81)] ⟨argsS Try.f81 [.agg [.int .i64 x1, .int .i64 x2, .int .i64 x3, .int .i64 x4, .int .i64 x5, .int .i64 x6], .c (.ptr 0 0 0)], ([.rblk [.int .i64 a, .int .i64 b, .int .i64 c, .int .i64 d, .int .i64 e, .int .i64 f]] : Heap cod)⟩ (Sym.Ends Try.prog Try.f81 1 (.c (.bool (decide (x1 = a)))) []) := by
  refine Runs.go (cfg := C_rsite) L_rsite_ok mixed cuts_chk1 400 hb (chk1_t0 x1 x2 x3 x4 x5 x6 a b c d e f) ?_
  simp [T.wp, T.wp_cond, Aft, Int.ofNat_eq_natCast, decide_eq_true_eq, and_true, true_and, Nat.zero_add, Bool.not_eq_true', decide_eq_false_iff_not]



noncomputable def s_chk1 : Summ cod := fun args H => match args, H with
  | [.agg [.int .i64 x1, .int .i64 x2, .int .i64 x3, .int .i64 x4, .int .i64 x5, .int .i64 x6], .c (.ptr 0 0 0)], [.rblk [.int .i64 a, .int .i64 b, .int .i64 c, .int .i64 d, .int .i64 e, .int .i64 f]] => .ret (.c (.bool (decide (x1 = a))), [])
  | _, _ => .fail


theorem chk1_sound : Sound Try.prog cod 81 s_chk1 := sound_runs (cfg := C_rsite) L_rsite_ok mixed Try.func81 rfl rfl _ fun args H r news hg b0 hb => by
  unfold s_chk1 at hg
  split at hg
  · skip
    cases hg
    exact chk1_run _ _ _ _ _ _ _ _ _ _ _ _ b0 hb 
  · exact hg.elim

noncomputable def L_chk1 : Sums cod := (81, .p s_chk1) :: L_rsite
noncomputable def C_chk1 : Cfg cod := mkC L_chk1

theorem L_chk1_ok : Snd Try.prog cod L_chk1 := .cons chk1_sound L_rsite_ok



def cuts_idxS : Cuts := [(2, [0, 1, 7, 8], 2)]

theorem idxS_t0 (l : List (Int × Int × Int × Int × Int × Int)) (l_t : Bool) (l_i l_n : Nat) (a b c d e f : Int) : symF C_chk1 cuts_idxS Try.f93.results.toList 2 400 [.code (codeOf Try.f93)] ⟨argsS Try.f93 [.c (.slc 0 l_i l_n l_t), .c (.fn 81 [(1, 0, 0)])], ([.inp 2 l, .rblk [.int .i64 a, .int .i64 b, .int .i64 c, .int .i64 d, .int .i64 e, .int .i64 f]] : Heap cod)⟩ =
.ret (.cut (cutAt Try.f93 2) ⟨tmG 10 [(0, .c (.slc 0 (l_i) (l_n) l_t)), (0, .c (.fn 81 [(1, 0, 0)])), (5, .c (.int .i64 (Int.ofNat l_n))), (0, .c (.int .i64 0))], [.inp 2 l, .rblk [.int .i64 a, .int .i64 b, .int .i64 c, .int .i64 d, .int .i64 e, .int .i64 f]]⟩) := by kernel_rfl


noncomputable def st_idxS_2 (l : List (Int × Int × Int × Int × Int × Int)) (l_t : Bool) (l_i l_n : Nat) (a b c d e f : Int) (i : Int) : St cod := ⟨tmG 10 [(0, .c (.slc 0 (l_i) (l_n) l_t)), (0, .c (.fn 81 [(1, 0, 0)])), (5, .c (.int .i64 (Int.ofNat l_n))), (0, .c (.int .i64 i))], [.inp 2 l, .rblk [.int .i64 a, .int .i64 b, .int .i64 c, .int .i64 d, .int .i64 e, .int .i64 f]]⟩


theorem idxS_t2 (l : List (Int × Int × Int × Int × Int × Int)) (l_t : Bool) (l_i l_n : Nat) (a b c d e f : Int) (i : Int) : symF C_chk1 cuts_idxS Try.f93.results.toList 2 400 (cutAt Try.f93 2) (st_idxS_2 l l_t l_i l_n a b c d e f i) =
 cond (decide (i < Int.ofNat l_n)) (
 .need (((0 : Int) ≤ i ∧ i < Int.ofNat l_n)) (
 .need (l_i + Int.toNat i < List.length l) (
 cond (decide ((List.getD l (l_i + Int.toNat i) (cod 2).d).1 = a)) (
  .ret (.fin (.c (.int .i64 i)) [])) (
  .need (i64ok (i + 1)) (
  .ret (.cut (cutAt Try.f93 2) ⟨tmG 10 [(0, .c (.slc 0 (l_i) (l_n) l_t)), (0, .c (.fn 81 [(1, 0, 0)])), (5, .c (.int .i64 (Int.ofNat l_n))), (0, .c (.int .i64 (i + 1)))], [.inp 2 l, .rblk [.int .i64 a, .int .i64 b, .int .i64 c, .int .i64 d, .int .i64 e, .int .i64 f]]⟩)))))) (
 .ret (.fin (.c (.int .i64 (-1))) [])) := by kernel_rfl



theorem idxS_loop (l : List F.C6) (l_t : Bool) (l_i l_n : Nat) (a b c d e f : Int) (h1 : l_i + l_n ≤ l.length) (h2 : l.length ≤ 1000000) (b0 : Base) (hb0 : b0.n = 2) (R : SV) : ∀ (m : Nat) (i : Int), 0 ≤ i → i + m = l_n → R = .c (.int .i64 (F.idxN (F.sid a) l m (l_i + i.toNat) i)) →
    Sym.Runs Try.prog b0 (cutAt Try.f93 2) (st_idxS_2 l l_t l_i l_n a b c d e f i) (Sym.Ends Try.prog Try.f93 2 R []) := by
  intro m
  induction m with
  | zero =>
    intro i h0 hm hR
    refine Runs.go (cfg := C_chk1) L_chk1_ok mixed cuts_idxS 400 hb0 (idxS_t2 l l_t l_i l_n a b c d e f i) ?_
    have k1 : ¬ i < (l_n : Int) := by omega
    simp only [T.wp, T.wp_cond, Aft, Int.ofNat_eq_natCast, decide_eq_true_eq, and_true, true_and, Nat.zero_add, Bool.not_eq_true', decide_eq_false_iff_not, k1, if_false, hR]
    rfl
  | succ m ih =>
    intro i h0 hm hR
    have k1 : i < (l_n : Int) := by omega
    have k2 : l_i + i.toNat < l.length := by omega
    have k3 : i64ok (i + 1) := by unfold i64ok; omega
    have k4 : l_i + (i + 1).toNat = l_i + i.toNat + 1 := by omega
    have hd : (cod 2).d = F.d6 := rfl
    have nx := ih (i + 1) (by omega) (by omega)
    rw [k4] at nx
    refine Runs.go (cfg := C_chk1) L_chk1_ok mixed cuts_idxS 400 hb0 (idxS_t2 l l_t l_i l_n a b c d e f i) ?_
    simp only [T.wp, T.wp_cond, Aft, Int.ofNat_eq_natCast, decide_eq_true_eq, and_true, true_and, Nat.zero_add, Bool.not_eq_true', decide_eq_false_iff_not, h0, k1, k2, k3, hd, if_true]
    simp only [F.idxN, F.sid, decide_eq_true_eq] at hR
    by_cases hq : (l.getD (l_i + i.toNat) F.d6).1 = a
    · rw [if_pos hq] at hR ⊢
      rw [hR]
    · rw [if_neg hq] at hR ⊢
      exact nx hR
theorem idxS_run (l : List (Int × Int × Int × Int × Int × Int)) (l_t : Bool) (l_i l_n : Nat) (a b c d e f : Int) (b0 : Base) (hb : b0.n = 2) (h0 : l_i + l_n ≤ List.length l) (h1 : List.length l ≤ 1000000) : Sym.Runs Try.prog b0 [.code (codeOf Try.f93)] ⟨argsS Try.f93 [.c (.slc 0 l_i l_n l_t), .c (.fn 81 [(1, 0, 0)])], ([.inp 2 l, .rblk [.int .i64 a, .int .i64 b, .int .i64 c, .int .i64 d, .int .i64 e, .int .i64 f]] : Heap cod)⟩ (Sym.Ends Try.prog Try.f93 2 (.c (.int .i64 (F.idxN (F.sid a) l l_n l_i 0))) []) := by
  refine Runs.go (cfg := C_chk1) L_chk1_ok mixed cuts_idxS 400 hb (idxS_t0 l l_t l_i l_n a b c d e f) ?_
  simp only [T.wp, T.wp_cond, Aft, Int.ofNat_eq_natCast, decide_eq_true_eq, and_true, true_and, Nat.zero_add, Bool.not_eq_true', decide_eq_false_iff_not]
  exact idxS_loop l l_t l_i l_n a b c d e f h0 h1 b0 hb _ l_n 0 (by omega) (by omega) rfl



noncomputable def s_idxS : Summ cod := fun args H => match args, H with
  | [.c (.slc 0 l_i l_n l_t), .c (.fn 81 [(1, 0, 0)])], [o0, .rblk [.int .i64 a, .int .i64 b, .int .i64 c, .int .i64 d, .int .i64 e, .int .i64 f]] => (match o0.asInp 2 with | some l => .need ((l_i + l_n ≤ List.length l) ∧ (List.length l ≤ 1000000)) (.ret (.c (.int .i64 (F.idxN (F.sid a) l l_n l_i 0)), [])) | none => .fail)
  | _, _ => .fail


theorem idxS_sound : Sound Try.prog cod 93 s_idxS := sound_runs (cfg := C_chk1) L_chk1_ok mixed Try.func93 rfl rfl _ fun args H r news hg b0 hb => by
  unfold s_idxS at hg
  split at hg
  · skip
    split at hg
    · rename_i l hx0
      cases asInp_spec hx0
      simp only [T.gives, T.wp, Prod.mk.injEq] at hg
      obtain ⟨⟨q0, q1⟩, rfl, rfl⟩ := hg
      exact idxS_run _ _ _ _ _ _ _ _ _ _ b0 hb (by assumption) (by assumption)
    · exact hg.elim
  · exact hg.elim

noncomputable def L_idxS : Sums cod := (93, .p s_idxS) :: L_chk1
noncomputable def C_idxS : Cfg cod := mkC L_idxS

theorem L_idxS_ok : Snd Try.prog cod L_idxS := .cons idxS_sound L_chk1_ok



def cuts_conS : Cuts := []

theorem conS_t0 (l : List (Int × Int × Int × Int × Int × Int)) (l_t : Bool) (l_i l_n : Nat) (a b c d e f : Int) : symF C_idxS cuts_conS Try.f80.results.toList 2 400 [.code (codeOf Try.f80)] ⟨argsS Try.f80 [.c (.slc 0 l_i l_n l_t), .c (.fn 81 [(1, 0, 0)])], ([.inp 2 l, .rblk [.int .i64 a, .int .i64 b, .int .i64 c, .int .i64 d, .int .i64 e, .int .i64 f]] : Heap cod)⟩ =
.need ((l_i + l_n ≤ List.length l ∧ List.length l ≤ 1000000)) (
.ret (.fin (.c (.bool (decide (0 ≤ F.idxN (F.sid a) l l_n l_i 0)))) [])) := by kernel_rfl



theorem conS_run (l : List (Int × Int × Int × Int × Int × Int)) (l_t : Bool) (l_i l_n : Nat) (a b c d e f : Int) (b0 : Base) (hb : b0.n = 2) (h0 : l_i + l_n ≤ List.length l) (h1 : List.length l ≤ 1000000) : Sym.Runs Try.prog b0 [.code (codeOf Try.f80)] ⟨argsS Try.f80 [.c (.slc 0 l_i l_n l_t), .c (.fn 81 [(1, 0, 0)])], ([.inp 2 l, .rblk [.int .i64 a, .int .i64 b, .int .i64 c, .int .i64 d, .int .i64 e, .int .i64 f]] : Heap cod)⟩ (Sym.Ends Try.prog Try.f80 2 (.c (.bool (decide (0 ≤ F.idxN (F.sid a) l l_n l_i 0)))) []) := by
  refine Runs.go (cfg := C_idxS) L_idxS_ok mixed cuts_conS 400 hb (conS_t0 l l_t l_i l_n a b c d e f) ?_
  simp [T.wp, T.wp_cond, Aft, Int.ofNat_eq_natCast, decide_eq_true_eq, and_true, true_and, Nat.zero_add, Bool.not_eq_true', decide_eq_false_iff_not, h0, h1]



noncomputable def s_conS : Summ cod := fun args H => match args, H with
  | [.c (.slc 0 l_i l_n l_t), .c (.fn 81 [(1, 0, 0)])], [o0, .rblk [.int .i64 a, .int .i64 b, .int .i64 c, .int .i64 d, .int .i64 e, .int .i64 f]] => (match o0.asInp 2 with | some l => .need ((l_i + l_n ≤ List.length l) ∧ (List.length l ≤ 1000000)) (.ret (.c (.bool (decide (0 ≤ F.idxN (F.sid a) l l_n l_i 0))), [])) | none => .fail)
  | _, _ => .fail


theorem conS_sound : Sound Try.prog cod 80 s_conS := sound_runs (cfg := C_idxS) L_idxS_ok mixed Try.func80 rfl rfl _ fun args H r news hg b0 hb => by
  unfold s_conS at hg
  split at hg
  · skip
    split at hg
    · rename_i l hx0
      cases asInp_spec hx0
      simp only [T.gives, T.wp, Prod.mk.injEq] at hg
      obtain ⟨⟨q0, q1⟩, rfl, rfl⟩ := hg
      exact conS_run _ _ _ _ _ _ _ _ _ _ b0 hb (by assumption) (by assumption)
    · exact hg.elim
  · exact hg.elim

noncomputable def L_conS : Sums cod := (80, .p s_conS) :: L_idxS
noncomputable def C_conS : Cfg cod := mkC L_conS

theorem L_conS_ok : Snd Try.prog cod L_conS := .cons conS_sound L_idxS_ok



theorem idxN_any (p : F.C6 → Bool) (l : List F.C6) : ∀ (m j : Nat) (i : Int), 0 ≤ i → j + m ≤ l.length → decide (0 ≤ F.idxN p l m j i) = ((l.drop j).take m).any p
  | 0, j, i, _, _ => by simp [F.idxN]
  | m + 1, j, i, h0, h1 => by
    have h2 : j < l.length := by omega
    have h3 : l.getD j F.d6 = l[j] := by simp [List.getD, List.getElem?_eq_getElem h2]
    rw [F.idxN, List.drop_eq_getElem_cons h2, List.take_succ_cons, List.any_cons, h3]
    cases hp : p l[j]
    · simp only [Bool.false_eq_true, if_false, Bool.false_or]
      exact idxN_any p l m (j + 1) (i + 1) (by omega) (by omega)
    · simp [h0]
theorem idxN_take (p : F.C6 → Bool) (l : List F.C6) (i : Nat) (h : i ≤ l.length) : (0 ≤ F.idxN p l i 0 0) = ((l.take i).any p = true) := by
  have := idxN_any p l i 0 0 (by omega) (by omega)
  rw [List.drop_zero] at this
  rw [← this, decide_eq_true_eq]


def cuts_mcheck : Cuts := [(4, [0, 9, 10, 11], 1)]

theorem mcheck_t0 (l : List (Int × Int × Int × Int × Int × Int)) (l_t : Bool) : symF C_conS cuts_mcheck Try.f56.results.toList 1 400 [.code (codeOf Try.f56)] ⟨argsS Try.f56 [.c (.slc 0 0 (List.length l) l_t)], ([.inp 2 l] : Heap cod)⟩ =
 cond (decide (4 < Int.ofNat (List.length l))) (
 .ret (.fin (.c (.int .i64 2)) [])) (
 .ret (.cut (cutAt Try.f56 4) ⟨tmG 15 [(0, .c (.slc 0 0 (List.length l) l_t)), (8, .c (.slc 0 0 (List.length l) l_t)), (0, .c (.int .i64 (Int.ofNat (List.length l)))), (0, .c (.int .i64 0))], [.inp 2 l]⟩)) := by kernel_rfl


noncomputable def st_mcheck_4 (l : List (Int × Int × Int × Int × Int × Int)) (l_t : Bool) (i : Int) : St cod := ⟨tmG 15 [(0, .c (.slc 0 0 (List.length l) l_t)), (8, .c (.slc 0 0 (List.length l) l_t)), (0, .c (.int .i64 (Int.ofNat (List.length l)))), (0, .c (.int .i64 i))], [.inp 2 l]⟩


theorem mcheck_t4 (l : List (Int × Int × Int × Int × Int × Int)) (l_t : Bool) (i : Int) : symF C_conS cuts_mcheck Try.f56.results.toList 1 400 (cutAt Try.f56 4) (st_mcheck_4 l l_t i) =
 cond (decide (i < Int.ofNat (List.length l))) (
 .need (((0 : Int) ≤ i ∧ i < Int.ofNat (List.length l))) (
 .need (0 + Int.toNat i < List.length l) (
 cond (!decide     (F.site (List.getD l (0 + Int.toNat i) (cod 2).d).1 (List.getD l (0 + Int.toNat i) (cod 2).d).2.1         (List.getD l (0 + Int.toNat i) (cod 2).d).2.2.1 (List.getD l (0 + Int.toNat i) (cod 2).d).2.2.2.1         (List.getD l (0 + Int.toNat i) (cod 2).d).2.2.2.2.1 (List.getD l (0 + Int.toNat i) (cod 2).d).2.2.2.2.2 =       0)) (
  .ret (.fin (.c (.int .i64 (F.site (List.getD l (0 + Int.toNat i) (cod 2).d).1 (List.getD l (0 + Int.toNat i) (cod 2).d).2.1   (List.getD l (0 + Int.toNat i) (cod 2).d).2.2.1 (List.getD l (0 + Int.toNat i) (cod 2).d).2.2.2.1   (List.getD l (0 + Int.toNat i) (cod 2).d).2.2.2.2.1 (List.getD l (0 + Int.toNat i) (cod 2).d).2.2.2.2.2))) [])) (
  .need (((0 : Int) ≤ i ∧ i ≤ Int.ofNat (List.length l))) (
  .need ((0 + Int.toNat i ≤ List.length l ∧ List.length l ≤ 1000000)) (
  cond (decide (0 ≤ F.idxN (F.sid (List.getD l (0 + Int.toNat i) (cod 2).d).1) l (Int.toNat i) 0 0)) (
   .ret (.fin (.c (.int .i64 7)) [])) (
   .need (i64ok (i + 1)) (
   .ret (.cut (cutAt Try.f56 4) ⟨tmG 15 [(0, .c (.slc 0 0 (List.length l) l_t)), (8, .c (.slc 0 0 (List.length l) l_t)), (0, .c (.int .i64 (Int.ofNat (List.length l)))), (0, .c (.int .i64 (i + 1)))], [.inp 2 l]⟩))))))))) (
 .ret (.fin (.c (.int .i64 0)) [])) := by kernel_rfl



theorem mcheck_loop (l : List F.C6) (l_t : Bool) (hl : l.length ≤ 4) (b0 : Base) (hb0 : b0.n = 1) (R : SV) : ∀ (m : Nat) (i : Int), 0 ≤ i → i + m = l.length → R = .c (.int .i64 (F.mck l m i.toNat)) →
    Sym.Runs Try.prog b0 (cutAt Try.f56 4) (st_mcheck_4 l l_t i) (Sym.Ends Try.prog Try.f56 1 R []) := by
  intro m
  induction m with
  | zero =>
    intro i h0 hm hR
    refine Runs.go (cfg := C_conS) L_conS_ok mixed cuts_mcheck 400 hb0 (mcheck_t4 l l_t i) ?_
    have k1 : ¬ i < (l.length : Int) := by omega
    simp only [T.wp, T.wp_cond, Aft, Int.ofNat_eq_natCast, decide_eq_true_eq, and_true, true_and, Nat.zero_add, Bool.not_eq_true', decide_eq_false_iff_not, k1, if_false, hR]
    rfl
  | succ m ih =>
    intro i h0 hm hR
    have k1 : i < (l.length : Int) := by omega
    have k2 : i.toNat < l.length := by omega
    have k3 : i64ok (i + 1) := by unfold i64ok; omega
    have k4 : (i + 1).toNat = i.toNat + 1 := by omega
    have k5 : l.length ≤ 1000000 := by omega
    have k6 : i ≤ (l.length : Int) := by omega
    have k7 : i.toNat ≤ l.length := by omega
    have hd : (cod 2).d = F.d6 := rfl
    have nx := ih (i + 1) (by omega) (by omega)
    rw [k4] at nx
    refine Runs.go (cfg := C_conS) L_conS_ok mixed cuts_mcheck 400 hb0 (mcheck_t4 l l_t i) ?_
    simp only [T.wp, T.wp_cond, Aft, Int.ofNat_eq_natCast, decide_eq_true_eq, and_true, true_and, Nat.zero_add, Bool.not_eq_true', decide_eq_false_iff_not, h0, k1, k2, k3, k5, k6, k7, hd, if_true, idxN_take _ _ _ (show i.toNat ≤ l.length by omega)]
    have e1 : F.site (l.getD i.toNat F.d6).1 (l.getD i.toNat F.d6).2.1 (l.getD i.toNat F.d6).2.2.1 (l.getD i.toNat F.d6).2.2.2.1 (l.getD i.toNat F.d6).2.2.2.2.1 (l.getD i.toNat F.d6).2.2.2.2.2 = F.site6 (l.getD i.toNat F.d6) := rfl
    simp only [e1]
    simp only [F.mck] at hR
    by_cases q : F.site6 (l.getD i.toNat F.d6) = 0
    · rw [if_neg (fun h => h q)] at hR
      rw [if_neg (fun h => h q)]
      cases hq : (l.take i.toNat).any (F.sid (l.getD i.toNat F.d6).1)
      · rw [hq, if_neg (by simp)] at hR
        rw [if_neg (by simp)]
        exact nx hR
      · rw [hq, if_pos rfl] at hR
        rw [if_pos rfl]
        rw [hR]
    · rw [if_pos q] at hR ⊢
      rw [hR]
theorem mcheck_run (l : List (Int × Int × Int × Int × Int × Int)) (l_t : Bool) (b0 : Base) (hb : b0.n = 1)  : Sym.Runs Try.prog b0 [.code (codeOf Try.f56)] ⟨argsS Try.f56 [.c (.slc 0 0 (List.length l) l_t)], ([.inp 2 l] : Heap cod)⟩ (Sym.Ends Try.prog Try.f56 1 (.c (.int .i64 (F.mchk l))) []) := by
  refine Runs.go (cfg := C_conS) L_conS_ok mixed cuts_mcheck 400 hb (mcheck_t0 l l_t) ?_
  by_cases h4 : 4 < l.length
  · have h5 : (4 : Int) < l.length := by omega
    simp [T.wp, T.wp_cond, Aft, Int.ofNat_eq_natCast, decide_eq_true_eq, and_true, true_and, Nat.zero_add, Bool.not_eq_true', decide_eq_false_iff_not, F.mchk, h4, h5]
  · have h5 : ¬ (4 : Int) < l.length := by omega
    simp only [T.wp, T.wp_cond, Aft, Int.ofNat_eq_natCast, decide_eq_true_eq, and_true, true_and, Nat.zero_add, Bool.not_eq_true', decide_eq_false_iff_not, F.mchk, h4, h5, if_false]
    exact mcheck_loop l l_t (by omega) b0 hb _ l.length 0 (by omega) (by omega) rfl



noncomputable def s_mcheck : Summ cod := fun args H => match args, H with
  | [.c (.slc 0 l_i l_n l_t)], [o0] => (match o0.asInp 2 with | some l => .need ((l_i = 0 ∧ l_n = List.length l)) (.ret (.c (.int .i64 (F.mchk l)), [])) | none => .fail)
  | _, _ => .fail


theorem mcheck_sound : Sound Try.prog cod 56 s_mcheck := sound_runs (cfg := C_conS) L_conS_ok mixed Try.func56 rfl rfl _ fun args H r news hg b0 hb => by
  unfold s_mcheck at hg
  split at hg
  · skip
    split at hg
    · rename_i l hx0
      cases asInp_spec hx0
      simp only [T.gives, T.wp, Prod.mk.injEq] at hg
      obtain ⟨⟨rfl, rfl⟩, rfl, rfl⟩ := hg
      exact mcheck_run _ _ b0 hb 
    · exact hg.elim
  · exact hg.elim

noncomputable def L_mcheck : Sums cod := (56, .p s_mcheck) :: L_conS
noncomputable def C_mcheck : Cfg cod := mkC L_mcheck

theorem L_mcheck_ok : Snd Try.prog cod L_mcheck := .cons mcheck_sound L_conS_ok


noncomputable def L_sortI : Sums cod := (58, .k s_sortI) :: L_mcheck
noncomputable def C_sortI : Cfg cod := mkC L_sortI

theorem L_sortI_ok : Snd Try.prog cod L_sortI := .consK sortI_sound L_mcheck_ok

namespace F
def seesL (px py : Int) (l : List C6) : List Int := (l.filter (cov6 px py)).map (·.1)
def seesE (px py : Int) (l : List C6) : Int := if mchk l ≠ 0 then mchk l else (if l = [] then 0 else (if placed px py then 0 else 4))
def seesR (px py : Int) (l : List C6) : List Int := if seesE px py l = 0 then sortI (seesL px py l) else []
end F


theorem mck_site {l : List F.C6} : ∀ (m j : Nat), F.mck l m j = 0 → ∀ k, j ≤ k → k < j + m → F.site6 (l.getD k F.d6) = 0
  | 0, j, _, k, h1, h2 => by omega
  | m + 1, j, h, k, h1, h2 => by
    rw [F.mck] at h
    split at h
    · rename_i q; exact absurd h q
    · rename_i q
      split at h
      · omega
      · rcases Nat.lt_or_ge j k with h3 | h3
        · exact mck_site m (j + 1) h k (by omega) (by omega)
        · have : k = j := by omega
          subst this
          simpa using q
theorem mchk_zero {l : List F.C6} (h : F.mchk l = 0) : l.length ≤ 4 ∧ ∀ k, k < l.length → F.site6 (l.getD k F.d6) = 0 := by
  unfold F.mchk at h
  split at h
  · omega
  · exact ⟨by omega, fun k hk => mck_site _ _ h k (by omega) (by omega)⟩


def cuts_sees : Cuts := [(6, [3, 17, 18, 19, 7], 4)]

theorem sees_t0 (l : List (Int × Int × Int × Int × Int × Int)) (l_t : Bool) (px py : Int) : symF C_sortI cuts_sees Try.f31.results.toList 1 400 [.code (codeOf Try.f31)] ⟨argsS Try.f31 [.c (.slc 0 0 (List.length l) l_t), .agg [.int .i64 px, .int .i64 py]], ([.inp 2 l] : Heap cod)⟩ =
.need ((0 = 0 ∧ List.length l = List.length l)) (
 cond (!decide (F.mchk l = 0)) (
 .ret (.fin (.tup [.c (.own 1 0), .c (.int .i64 (F.mchk l))]) [.own 0 [] 3])) (
 .ret (.cut (cutAt Try.f31 6) ⟨tmG 22 [(3, .c (.ptr 1 0 0)), (3, .c (.own 3 0)), (9, .c (.slc 0 0 (List.length l) l_t)), (0, .c (.int .i64 (Int.ofNat (List.length l)))), (0, .c (.int .i64 0))], [.inp 2 l, .blk [.int .i64 px, .int .i64 py] 62, .own 0 [] 3, .own 0 [] 3]⟩))) := by kernel_rfl


noncomputable def st_sees_6 (l : List (Int × Int × Int × Int × Int × Int)) (l_t : Bool) (px py : Int) (i : Int) (out : List Int) : St cod := ⟨tmG 22 [(3, .c (.ptr 1 0 0)), (3, .c (.own 3 (List.length out))), (9, .c (.slc 0 0 (List.length l) l_t)), (0, .c (.int .i64 (Int.ofNat (List.length l)))), (0, .c (.int .i64 i))], ([.inp 2 l, .blk [.int .i64 px, .int .i64 py] 62, .own 0 [] 3, .own 0 out 3] : Heap cod)⟩


theorem sees_t6 (l : List (Int × Int × Int × Int × Int × Int)) (l_t : Bool) (px py : Int) (i : Int) (out : List Int) : symF C_sortI cuts_sees Try.f31.results.toList 1 400 (cutAt Try.f31 6) (st_sees_6 l l_t px py i out) =
 cond (decide (i < Int.ofNat (List.length l))) (
 .need (((0 : Int) ≤ i ∧ i < Int.ofNat (List.length l))) (
 .need (0 + Int.toNat i < List.length l) (
 cond (!decide     (F.covE (List.getD l (0 + Int.toNat i) (cod 2).d).1 (List.getD l (0 + Int.toNat i) (cod 2).d).2.1         (List.getD l (0 + Int.toNat i) (cod 2).d).2.2.1 (List.getD l (0 + Int.toNat i) (cod 2).d).2.2.2.1         (List.getD l (0 + Int.toNat i) (cod 2).d).2.2.2.2.1 (List.getD l (0 + Int.toNat i) (cod 2).d).2.2.2.2.2 px py =       0)) (
  .ret (.fin (.tup [.c (.own 1 0), .c (.int .i64 (F.covE (List.getD l (0 + Int.toNat i) (cod 2).d).1 (List.getD l (0 + Int.toNat i) (cod 2).d).2.1   (List.getD l (0 + Int.toNat i) (cod 2).d).2.2.1 (List.getD l (0 + Int.toNat i) (cod 2).d).2.2.2.1   (List.getD l (0 + Int.toNat i) (cod 2).d).2.2.2.2.1 (List.getD l (0 + Int.toNat i) (cod 2).d).2.2.2.2.2 px py))]) [.own 0 [] 3])) (
  cond (F.cov (List.getD l (0 + Int.toNat i) (cod 2).d).1 (List.getD l (0 + Int.toNat i) (cod 2).d).2.1   (List.getD l (0 + Int.toNat i) (cod 2).d).2.2.1 (List.getD l (0 + Int.toNat i) (cod 2).d).2.2.2.1   (List.getD l (0 + Int.toNat i) (cod 2).d).2.2.2.2.1 (List.getD l (0 + Int.toNat i) (cod 2).d).2.2.2.2.2 px py) (
   .need (1 = 1) (
   .need (List.length out + 1 ≤ 1000000) (
   .need (i64ok (i + 1)) (
   .ret (.cut (cutAt Try.f31 6) ⟨tmG 22 [(3, .c (.ptr 1 0 0)), (3, .c (.own 3 (List.length out + 1))), (9, .c (.slc 0 0 (List.length l) l_t)), (0, .c (.int .i64 (Int.ofNat (List.length l)))), (0, .c (.int .i64 (i + 1)))], [.inp 2 l, .blk [.int .i64 px, .int .i64 py] 62, .own 0 [] 3, .own 0 (out ++ ([(List.getD l (0 + Int.toNat i) (cod 2).d).1])) 3]⟩))))) (
   .need (i64ok (i + 1)) (
   .ret (.cut (cutAt Try.f31 6) ⟨tmG 22 [(3, .c (.ptr 1 0 0)), (3, .c (.own 3 (List.length out))), (9, .c (.slc 0 0 (List.length l) l_t)), (0, .c (.int .i64 (Int.ofNat (List.length l)))), (0, .c (.int .i64 (i + 1)))], [.inp 2 l, .blk [.int .i64 px, .int .i64 py] 62, .own 0 [] 3, .own 0 out 3]⟩))))))) (
 .need (List.length out ≤ 1000000) (
 .ret (.fin (.tup [.c (.own 1 (List.length out)), .c (.int .i64 0)]) [.own 0 (F.sortI out) 3]))) := by kernel_rfl



theorem sees_loop (l : List F.C6) (l_t : Bool) (px py : Int) (hz : F.mchk l = 0) (hp : F.placed px py = true) (b0 : Base) (hb0 : b0.n = 1) (R : List Int) : ∀ (m : Nat) (i : Int) (out : List Int), 0 ≤ i → i + m = l.length → out.length + m ≤ 4 → R = F.sortI (out ++ ((l.drop i.toNat).filter (F.cov6 px py)).map (·.1)) →
    Sym.Runs Try.prog b0 (cutAt Try.f31 6) (st_sees_6 l l_t px py i out) (Sym.Ends Try.prog Try.f31 1 (.tup [.c (.own 1 (List.length R)), .c (.int .i64 0)]) [.own 0 R 3]) := by
  have h4 := (mchk_zero hz).1
  intro m
  induction m with
  | zero =>
    intro i out h0 hm ho hR
    refine Runs.go (cfg := C_sortI) L_sortI_ok mixed cuts_sees 400 hb0 (sees_t6 l l_t px py i out) ?_
    have k1 : ¬ i < (l.length : Int) := by omega
    have k2 : out.length ≤ 1000000 := by omega
    rw [drop_end l k1, List.filter_nil, List.map_nil, List.append_nil] at hR
    have k3 : R.length = out.length := by rw [hR, sortI_len]
    simp only [T.wp, T.wp_cond, Aft, Int.ofNat_eq_natCast, decide_eq_true_eq, and_true, true_and, Nat.zero_add, Bool.not_eq_true', decide_eq_false_iff_not, k1, k2, if_false, k3]
    rw [hR]
  | succ m ih =>
    intro i out h0 hm ho hR
    have k1 : i < (l.length : Int) := by omega
    have k2 : i.toNat < l.length := by omega
    have k3 : i64ok (i + 1) := by unfold i64ok; omega
    have k4 : out.length + 1 ≤ 1000000 := by omega
    have hd : (cod 2).d = F.d6 := rfl
    rw [drop_at l F.d6 h0 k1, List.filter_cons] at hR
    have e1 : F.site6 (l.getD i.toNat F.d6) = 0 := (mchk_zero hz).2 _ k2
    have e2 : F.covE (l.getD i.toNat F.d6).1 (l.getD i.toNat F.d6).2.1 (l.getD i.toNat F.d6).2.2.1 (l.getD i.toNat F.d6).2.2.2.1 (l.getD i.toNat F.d6).2.2.2.2.1 (l.getD i.toNat F.d6).2.2.2.2.2 px py = 0 := by
      unfold F.covE
      rw [hp]
      split
      · rfl
      · rename_i h; exact absurd e1 h
    have e3 : F.cov (l.getD i.toNat F.d6).1 (l.getD i.toNat F.d6).2.1 (l.getD i.toNat F.d6).2.2.1 (l.getD i.toNat F.d6).2.2.2.1 (l.getD i.toNat F.d6).2.2.2.2.1 (l.getD i.toNat F.d6).2.2.2.2.2 px py = F.cov6 px py (l.getD i.toNat F.d6) := rfl
    have nx := ih (i + 1)
    refine Runs.go (cfg := C_sortI) L_sortI_ok mixed cuts_sees 400 hb0 (sees_t6 l l_t px py i out) ?_
    simp only [T.wp, T.wp_cond, Aft, Int.ofNat_eq_natCast, decide_eq_true_eq, and_true, true_and, Nat.zero_add, Bool.not_eq_true', decide_eq_false_iff_not, h0, k1, k2, k3, k4, hd, e2, e3, if_true, not_true_eq_false, if_false]
    cases hc : F.cov6 px py (l.getD i.toNat F.d6)
    · rw [hc, if_neg (by simp)] at hR
      rw [if_neg (by simp)]
      exact nx out (by omega) (by omega) (by omega) hR
    · rw [hc, if_pos rfl] at hR
      rw [if_pos rfl]
      have := nx (out ++ [(l.getD i.toNat F.d6).1]) (by omega) (by omega) (by rw [List.length_append, List.length_singleton]; omega) (by rw [hR, List.map_cons, List.append_assoc]; rfl)
      rw [st_sees_6, List.length_append, List.length_singleton] at this
      exact this
theorem sees_run (l : List (Int × Int × Int × Int × Int × Int)) (l_t : Bool) (px py : Int) (b0 : Base) (hb : b0.n = 1)  : Sym.Runs Try.prog b0 [.code (codeOf Try.f31)] ⟨argsS Try.f31 [.c (.slc 0 0 (List.length l) l_t), .agg [.int .i64 px, .int .i64 py]], ([.inp 2 l] : Heap cod)⟩ (Sym.Ends Try.prog Try.f31 1 (.tup [.c (.own 1 (List.length (F.seesR px py l))), .c (.int .i64 (F.seesE px py l))]) [.own 0 (F.seesR px py l) 3]) := by
  refine Runs.go (cfg := C_sortI) L_sortI_ok mixed cuts_sees 400 hb (sees_t0 l l_t px py) ?_
  by_cases hz : F.mchk l = 0
  · have h4 := (mchk_zero hz).1
    simp only [T.wp, T.wp_cond, Aft, Int.ofNat_eq_natCast, decide_eq_true_eq, and_true, true_and, Nat.zero_add, Bool.not_eq_true', decide_eq_false_iff_not, hz, not_true_eq_false, if_false]
    by_cases hl : l = []
    · have e0 : F.seesE px py l = 0 := by unfold F.seesE; rw [if_neg (fun h => h hz), if_pos hl]
      have e2 : F.sortI [] = [] := by simp [F.sortI]
      have e1 : F.seesR px py l = [] := by unfold F.seesR; rw [if_pos e0, hl]; simp [F.seesL, F.sortI]
      rw [e0, e1]
      refine Runs.go (cfg := C_sortI) L_sortI_ok mixed cuts_sees 400 hb (sees_t6 l l_t px py 0 []) ?_
      have k1 : ¬ (0 : Int) < (l.length : Int) := by rw [hl]; simp
      simp only [T.wp, T.wp_cond, Aft, Int.ofNat_eq_natCast, decide_eq_true_eq, and_true, true_and, Nat.zero_add, Bool.not_eq_true', decide_eq_false_iff_not, k1, if_false, e2]
      first | exact ⟨rfl, rfl⟩ | exact ⟨by simp, rfl, rfl⟩ | exact ⟨by simp, rfl⟩ | exact Nat.zero_le _
    · cases hp : F.placed px py
      · have e0 : F.seesE px py l = 4 := by unfold F.seesE; rw [if_neg (fun h => h hz), if_neg hl, hp]; rfl
        have e1 : F.seesR px py l = [] := by unfold F.seesR; rw [if_neg (by omega)]
        rw [e0, e1]
        refine Runs.go (cfg := C_sortI) L_sortI_ok mixed cuts_sees 400 hb (sees_t6 l l_t px py 0 []) ?_
        have hpos : 0 < l.length := List.length_pos_iff.2 hl
        have k1 : (0 : Int) < (l.length : Int) := by omega
        have hd : (cod 2).d = F.d6 := rfl
        have e1 : F.site6 (l.getD 0 F.d6) = 0 := (mchk_zero hz).2 _ hpos
        have e2 : F.covE (l.getD 0 F.d6).1 (l.getD 0 F.d6).2.1 (l.getD 0 F.d6).2.2.1 (l.getD 0 F.d6).2.2.2.1 (l.getD 0 F.d6).2.2.2.2.1 (l.getD 0 F.d6).2.2.2.2.2 px py = 4 := by
          unfold F.covE
          rw [hp]
          split <;> rfl
        simp only [T.wp, T.wp_cond, Aft, Int.ofNat_eq_natCast, decide_eq_true_eq, and_true, true_and, Nat.zero_add, Bool.not_eq_true', decide_eq_false_iff_not, k1, hpos, Int.toNat_zero, hd, e2, if_true]
        exact ⟨by omega, rfl, rfl⟩
      · have e0 : F.seesE px py l = 0 := by unfold F.seesE; rw [if_neg (fun h => h hz), if_neg hl, hp]; rfl
        rw [e0]
        have e1 : F.seesR px py l = F.sortI (F.seesL px py l) := by unfold F.seesR; rw [if_pos e0]
        rw [e1]
        exact sees_loop l l_t px py hz hp b0 hb _ l.length 0 [] (by omega) (by omega) (by simp; omega) rfl
  · have e0 : F.seesE px py l = F.mchk l := by unfold F.seesE; rw [if_pos hz]
    have e1 : F.seesR px py l = [] := by unfold F.seesR; rw [if_neg (by rw [e0]; exact hz)]
    rw [e0, e1]
    simp only [T.wp, T.wp_cond, Aft, Int.ofNat_eq_natCast, decide_eq_true_eq, and_true, true_and, Nat.zero_add, Bool.not_eq_true', decide_eq_false_iff_not, hz, not_false_eq_true, if_true]
    exact ⟨rfl, rfl⟩



noncomputable def s_sees : Summ cod := fun args H => match args, H with
  | [.c (.slc 0 l_i l_n l_t), .agg [.int .i64 px, .int .i64 py]], [o0] => (match o0.asInp 2 with | some l => .need ((l_i = 0 ∧ l_n = List.length l)) (.ret (.tup [.c (.own 1 (List.length (F.seesR px py l))), .c (.int .i64 (F.seesE px py l))], [.own 0 (F.seesR px py l) 3])) | none => .fail)
  | _, _ => .fail


theorem sees_sound : Sound Try.prog cod 31 s_sees := sound_runs (cfg := C_sortI) L_sortI_ok mixed Try.func31 rfl rfl _ fun args H r news hg b0 hb => by
  unfold s_sees at hg
  split at hg
  · skip
    split at hg
    · rename_i l hx0
      cases asInp_spec hx0
      simp only [T.gives, T.wp, Prod.mk.injEq] at hg
      obtain ⟨⟨rfl, rfl⟩, rfl, rfl⟩ := hg
      exact sees_run _ _ _ _ b0 hb 
    · exact hg.elim
  · exact hg.elim

noncomputable def L_sees : Sums cod := (31, .p s_sees) :: L_sortI
noncomputable def C_sees : Cfg cod := mkC L_sees

theorem L_sees_ok : Snd Try.prog cod L_sees := .cons sees_sound L_sortI_ok



namespace F
def same (a b : List Int) (ai an bi bn : Nat) : Bool := decide (an = bn) && decide ((a.drop ai).take an = (b.drop bi).take bn)
end F


def cuts_sameI : Cuts := [(4, [1, 0, 12, 13], 2)]

theorem sameI_t0 (a : List Int) (a_t : Bool) (a_i a_n : Nat) (b : List Int) (b_t : Bool) (b_i b_n : Nat) : symF C_sees cuts_sameI Try.f17.results.toList 2 400 [.code (codeOf Try.f17)] ⟨argsS Try.f17 [.c (.slc 0 a_i a_n a_t), .c (.slc 1 b_i b_n b_t)], ([.inp 0 a, .inp 0 b] : Heap cod)⟩ =
 cond (!decide (Int.ofNat a_n = Int.ofNat b_n)) (
 .ret (.fin (.c (.bool false)) [])) (
 .ret (.cut (cutAt Try.f17 4) ⟨tmG 12 [(0, .c (.slc 0 (a_i) (a_n) a_t)), (0, .c (.slc 1 (b_i) (b_n) b_t)), (10, .c (.int .i64 (Int.ofNat a_n))), (0, .c (.int .i64 0))], [.inp 0 a, .inp 0 b]⟩)) := by kernel_rfl


noncomputable def st_sameI_4 (a : List Int) (a_t : Bool) (a_i a_n : Nat) (b : List Int) (b_t : Bool) (b_i b_n : Nat) (i : Int) : St cod := ⟨tmG 12 [(0, .c (.slc 0 (a_i) (a_n) a_t)), (0, .c (.slc 1 (b_i) (b_n) b_t)), (10, .c (.int .i64 (Int.ofNat a_n))), (0, .c (.int .i64 i))], [.inp 0 a, .inp 0 b]⟩


theorem sameI_t4 (a : List Int) (a_t : Bool) (a_i a_n : Nat) (b : List Int) (b_t : Bool) (b_i b_n : Nat) (i : Int) : symF C_sees cuts_sameI Try.f17.results.toList 2 400 (cutAt Try.f17 4) (st_sameI_4 a a_t a_i a_n b b_t b_i b_n i) =
 cond (decide (i < Int.ofNat a_n)) (
 .need (((0 : Int) ≤ i ∧ i < Int.ofNat a_n)) (
 .need (a_i + Int.toNat i < List.length a) (
 .need (((0 : Int) ≤ i ∧ i < Int.ofNat b_n)) (
 .need (b_i + Int.toNat i < List.length b) (
 cond (!decide (List.getD a (a_i + Int.toNat i) (cod 0).d = List.getD b (b_i + Int.toNat i) (cod 0).d)) (
  .ret (.fin (.c (.bool false)) [])) (
  .need (i64ok (i + 1)) (
  .ret (.cut (cutAt Try.f17 4) ⟨tmG 12 [(0, .c (.slc 0 (a_i) (a_n) a_t)), (0, .c (.slc 1 (b_i) (b_n) b_t)), (10, .c (.int .i64 (Int.ofNat a_n))), (0, .c (.int .i64 (i + 1)))], [.inp 0 a, .inp 0 b]⟩)))))))) (
 .ret (.fin (.c (.bool true)) [])) := by kernel_rfl



theorem sameI_loop (a : List Int) (a_t : Bool) (a_i a_n : Nat) (b : List Int) (b_t : Bool) (b_i b_n : Nat) (h1 : a_i + a_n ≤ a.length) (h2 : b_i + b_n ≤ b.length) (h3 : a_n ≤ 1000000) (he : a_n = b_n) (b0 : Base) (hb0 : b0.n = 2) (R : SV) : ∀ (m : Nat) (i : Int), 0 ≤ i → i + m = a_n → R = .c (.bool (decide ((a.drop (a_i + i.toNat)).take m = (b.drop (b_i + i.toNat)).take m))) →
    Sym.Runs Try.prog b0 (cutAt Try.f17 4) (st_sameI_4 a a_t a_i a_n b b_t b_i b_n i) (Sym.Ends Try.prog Try.f17 2 R []) := by
  intro m
  induction m with
  | zero =>
    intro i h0 hm hR
    refine Runs.go (cfg := C_sees) L_sees_ok mixed cuts_sameI 400 hb0 (sameI_t4 a a_t a_i a_n b b_t b_i b_n i) ?_
    have k1 : ¬ i < (a_n : Int) := by omega
    simp only [List.take_zero, decide_true] at hR
    simp only [T.wp, T.wp_cond, Aft, Int.ofNat_eq_natCast, decide_eq_true_eq, and_true, true_and, Nat.zero_add, Bool.not_eq_true', decide_eq_false_iff_not, k1, if_false, hR]
  | succ m ih =>
    intro i h0 hm hR
    have k1 : i < (a_n : Int) := by omega
    have k2 : a_i + i.toNat < a.length := by omega
    have k3 : i64ok (i + 1) := by unfold i64ok; omega
    have k4 : i < (b_n : Int) := by omega
    have k5 : b_i + i.toNat < b.length := by omega
    have k6 : a_i + (i + 1).toNat = a_i + i.toNat + 1 := by omega
    have k7 : b_i + (i + 1).toNat = b_i + i.toNat + 1 := by omega
    have hd : (cod 0).d = (0 : Int) := rfl
    have nx := ih (i + 1) (by omega) (by omega)
    rw [k6, k7] at nx
    rw [List.drop_eq_getElem_cons k2, List.drop_eq_getElem_cons k5, List.take_succ_cons, List.take_succ_cons] at hR
    have g1 : a.getD (a_i + i.toNat) 0 = a[a_i + i.toNat] := by simp [List.getD, List.getElem?_eq_getElem k2]
    have g2 : b.getD (b_i + i.toNat) 0 = b[b_i + i.toNat] := by simp [List.getD, List.getElem?_eq_getElem k5]
    refine Runs.go (cfg := C_sees) L_sees_ok mixed cuts_sameI 400 hb0 (sameI_t4 a a_t a_i a_n b b_t b_i b_n i) ?_
    simp only [T.wp, T.wp_cond, Aft, Int.ofNat_eq_natCast, decide_eq_true_eq, and_true, true_and, Nat.zero_add, Bool.not_eq_true', decide_eq_false_iff_not, h0, k1, k2, k3, k4, k5, hd, g1, g2, if_true]
    by_cases hq : a[a_i + i.toNat] = b[b_i + i.toNat]
    · rw [if_neg (fun h => h hq)]
      refine nx ?_
      rw [hR, hq]
      simp
    · rw [if_pos hq, hR]
      simp [hq]
theorem sameI_run (a : List Int) (a_t : Bool) (a_i a_n : Nat) (b : List Int) (b_t : Bool) (b_i b_n : Nat) (b0 : Base) (hb : b0.n = 2) (h0 : a_i + a_n ≤ List.length a) (h1 : b_i + b_n ≤ List.length b) (h2 : a_n ≤ 1000000) : Sym.Runs Try.prog b0 [.code (codeOf Try.f17)] ⟨argsS Try.f17 [.c (.slc 0 a_i a_n a_t), .c (.slc 1 b_i b_n b_t)], ([.inp 0 a, .inp 0 b] : Heap cod)⟩ (Sym.Ends Try.prog Try.f17 2 (.c (.bool (F.same a b a_i a_n b_i b_n))) []) := by
  refine Runs.go (cfg := C_sees) L_sees_ok mixed cuts_sameI 400 hb (sameI_t0 a a_t a_i a_n b b_t b_i b_n) ?_
  unfold F.same
  by_cases he : a_n = b_n
  · have he' : (a_n : Int) = b_n := by omega
    subst he
    simp only [T.wp, T.wp_cond, Aft, Int.ofNat_eq_natCast, decide_eq_true_eq, and_true, true_and, Nat.zero_add, Bool.not_eq_true', decide_eq_false_iff_not, not_true_eq_false, if_false, decide_true, Bool.true_and]
    exact sameI_loop a a_t a_i a_n b b_t b_i a_n h0 h1 h2 rfl b0 hb _ a_n 0 (by omega) (by omega) rfl
  · have he' : ¬ (a_n : Int) = b_n := by omega
    simp [T.wp, T.wp_cond, Aft, Int.ofNat_eq_natCast, decide_eq_true_eq, and_true, true_and, Nat.zero_add, Bool.not_eq_true', decide_eq_false_iff_not, he, he']



noncomputable def s_sameI : Summ cod := fun args H => match args, H with
  | [.c (.slc 0 a_i a_n a_t), .c (.slc 1 b_i b_n b_t)], [o0, o1] => (match o0.asInp 0 with | some a => (match o1.asInp 0 with | some b => .need ((a_i + a_n ≤ List.length a) ∧ (b_i + b_n ≤ List.length b) ∧ (a_n ≤ 1000000)) (.ret (.c (.bool (F.same a b a_i a_n b_i b_n)), [])) | none => .fail) | none => .fail)
  | _, _ => .fail


theorem sameI_sound : Sound Try.prog cod 17 s_sameI := sound_runs (cfg := C_sees) L_sees_ok mixed Try.func17 rfl rfl _ fun args H r news hg b0 hb => by
  unfold s_sameI at hg
  split at hg
  · skip
    split at hg
    · rename_i a hx0
      cases asInp_spec hx0
      split at hg
      · rename_i b hx1
        cases asInp_spec hx1
        simp only [T.gives, T.wp, Prod.mk.injEq] at hg
        obtain ⟨⟨q0, q1, q2⟩, rfl, rfl⟩ := hg
        exact sameI_run _ _ _ _ _ _ _ _ b0 hb (by assumption) (by assumption) (by assumption)
      · exact hg.elim
    · exact hg.elim
  · exact hg.elim

noncomputable def L_sameI : Sums cod := (17, .p s_sameI) :: L_sees
noncomputable def C_sameI : Cfg cod := mkC L_sameI

theorem L_sameI_ok : Snd Try.prog cod L_sameI := .cons sameI_sound L_sees_ok


end
end Go.Proofs.Ytbkpgpkeecnjpaa
