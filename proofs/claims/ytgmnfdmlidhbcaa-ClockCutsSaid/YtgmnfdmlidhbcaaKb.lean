/- Part of a claim: lemmas on the way to its theorem; each states its own conditions. -/
import Derived.Test.YtgmnfdmlidhbcaaBd24
import Derived.Test.YtgmnfdmlidhbcaaBd25
namespace Go.Proofs.Ytgmnfdmlidhbcaa
open Sym Go.RowKit
noncomputable section
set_option maxRecDepth 100000
set_option maxHeartbeats 4000000



namespace F
abbrev Ev := Int × Int × Int
def ev0 : Ev := (0, 0, 0)
def isS (m : Int) (x : Ev) : Bool := decide (x.2.1 = 1) && decide (x.2.2 = m)
def sntG (m : Int) : List Ev → Int → Int
  | [], _ => -1
  | x :: r, i => if isS m x then i else sntG m r (i + 1)
/-- Where a message was sent, -1 if nowhere. -/
def snt (l : List Ev) (m : Int) : Int := sntG m l 0
def chkE (l : List Ev) (i : Nat) : Int :=
  if decide ((l.getD i ev0).1 < 0) || (decide (8 ≤ (l.getD i ev0).1) || (decide ((l.getD i ev0).2.1 < 0) || decide (2 < (l.getD i ev0).2.1))) then 4 else
  (if (l.getD i ev0).2.1 = 0 ∧ ¬ (l.getD i ev0).2.2 = 0 then 3 else
  (if (l.getD i ev0).2.1 = 1 ∧ 0 ≤ snt (l.take i) (l.getD i ev0).2.2 then 7 else
  (if (l.getD i ev0).2.1 = 2 ∧ snt (l.take i) (l.getD i ev0).2.2 < 0 then 21 else 0)))
def chkG (l : List Ev) : Nat → Nat → Int
  | 0, _ => 0
  | n + 1, i => if chkE l i = 0 then chkG l n (i + 1) else chkE l i
def chk (l : List Ev) : Int := if 200 < l.length then 2 else chkG l l.length 0
end F


namespace F
theorem sntG_any (m : Int) : ∀ (l : List Ev) (i : Int), 0 ≤ i → (0 ≤ sntG m l i ↔ l.any (isS m) = true)
  | [], i, h => by simp [sntG]
  | x :: r, i, h => by
      unfold sntG
      by_cases e : isS m x = true
      · simp [e, h]
      · rw [if_neg e, sntG_any m r (i + 1) (by omega)]
        simp [e]
theorem snt_any (m : Int) (l : List Ev) : decide (0 ≤ snt l m) = l.any (isS m) := by
  rw [Bool.eq_iff_iff, decide_eq_true_iff]
  exact sntG_any m l 0 (Int.le_refl _)
theorem getD_part {α : Type} (l : List α) (d : α) (i n j : Nat) (hj : j < n) : ((l.drop i).take n).getD j d = l.getD (i + j) d := by
  rw [List.getD_eq_getElem?_getD, List.getElem?_take, if_pos hj, List.getElem?_drop, List.getD_eq_getElem?_getD]
theorem ite_both {c : Prop} [Decidable c] {a b : Prop} (h1 : c → a) (h2 : ¬ c → b) : if c then a else b := by
  by_cases h : c
  · rw [if_pos h]; exact h1 h
  · rw [if_neg h]; exact h2 h
theorem take_any (l : List Ev) (f : Ev → Bool) (j : Nat) (h : j < l.length) : (l.take (j + 1)).any f = ((l.take j).any f || f (l.getD j ev0)) := by
  rw [List.take_add_one, List.any_append, List.getD_eq_getElem?_getD, List.getElem?_eq_getElem h]
  simp
end F


def cuts_snt1 : Cuts := []

theorem snt1_t0 (a1 a2 a3 : Int) (m : Int) : symF C_in cuts_snt1 Try.f40.results.toList 1 400 [.code (codeOf Try.f40)] ⟨argsS Try.f40 [.agg [.int .i64 a1, .int .i64 a2, .int .i64 a3], .c (.ptr 0 0 0)], ([.rblk [.int .i64 m]] : Heap cod)⟩ =
 cond (decide (a2 = 1)) (
 .ret (.fin (.c (.bool (decide (a3 = m)))) [])) (
 .ret (.fin (.c (.bool false)) [])) := by kernel_rfl



theorem snt1_run (a1 a2 a3 : Int) (m : Int) (b0 : Base) (hb : b0.n = 1)  : Sym.Runs Try.prog b0 [.code (codeOf Try.f40)] ⟨argsS Try.f40 [.agg [.int .i64 a1, .int .i64 a2, .int .i64 a3], .c (.ptr 0 0 0)], ([.rblk [.int .i64 m]] : Heap cod)⟩ (Sym.Ends Try.prog Try.f40 1 (.c (.bool (F.isS m (a1, a2, a3)))) []) := by
  refine Runs.go (cfg := C_in) L_in_ok mixed cuts_snt1 400 hb (snt1_t0 a1 a2 a3 m) ?_
  unfold F.isS
  simp only [T.wp, T.wp_cond, Aft, Int.ofNat_eq_natCast, decide_eq_true_eq, and_true, true_and, Nat.zero_add, Bool.not_eq_true', decide_eq_false_iff_not]
  by_cases h1 : a2 = 1 <;> simp [h1]



noncomputable def s_snt1 : Summ cod := fun args H => match args, H with
  | [.agg [.int .i64 a1, .int .i64 a2, .int .i64 a3], .c (.ptr 0 0 0)], [.rblk [.int .i64 m]] => .ret (.c (.bool (F.isS m (a1, a2, a3))), [])
  | _, _ => .fail


theorem snt1_sound : Sound Try.prog cod 40 s_snt1 := sound_runs (cfg := C_in) L_in_ok mixed Try.func40 rfl rfl _ fun args H r news hg b0 hb => by
  unfold s_snt1 at hg
  split at hg
  · skip
    cases hg
    exact snt1_run _ _ _ _ b0 hb 
  · exact hg.elim

noncomputable def L_snt1 : Sums cod := (40, .p s_snt1) :: L_in
noncomputable def C_snt1 : Cfg cod := mkC L_snt1

theorem L_snt1_ok : Snd Try.prog cod L_snt1 := .cons snt1_sound L_in_ok



def cuts_sntF : Cuts := [(2, [0, 1, 7, 8], 2)]

theorem sntF_t0 (l : List (Int × Int × Int)) (l_t : Bool) (l_i l_n : Nat) (m : Int) : symF C_snt1 cuts_sntF Try.f39.results.toList 2 400 [.code (codeOf Try.f39)] ⟨argsS Try.f39 [.c (.slc 0 l_i l_n l_t), .c (.fn 40 [(1, 0, 0)])], ([.inp 1 l, .rblk [.int .i64 m]] : Heap cod)⟩ =
.ret (.cut (cutAt Try.f39 2) ⟨tmG 10 [(0, .c (.slc 0 (l_i) (l_n) l_t)), (0, .c (.fn 40 [(1, 0, 0)])), (5, .c (.int .i64 (Int.ofNat l_n))), (0, .c (.int .i64 0))], [.inp 1 l, .rblk [.int .i64 m]]⟩) := by kernel_rfl


noncomputable def st_sntF_2 (l : List (Int × Int × Int)) (l_t : Bool) (l_i l_n : Nat) (m : Int) (i : Int) : St cod := ⟨tmG 10 [(0, .c (.slc 0 (l_i) (l_n) l_t)), (0, .c (.fn 40 [(1, 0, 0)])), (5, .c (.int .i64 (Int.ofNat l_n))), (0, .c (.int .i64 i))], [.inp 1 l, .rblk [.int .i64 m]]⟩


theorem sntF_t2 (l : List (Int × Int × Int)) (l_t : Bool) (l_i l_n : Nat) (m : Int) (i : Int) : symF C_snt1 cuts_sntF Try.f39.results.toList 2 400 (cutAt Try.f39 2) (st_sntF_2 l l_t l_i l_n m i) =
 cond (decide (i < Int.ofNat l_n)) (
 .need (((0 : Int) ≤ i ∧ i < Int.ofNat l_n)) (
 .need (l_i + Int.toNat i < List.length l) (
 cond (F.isS m   ((List.getD l (l_i + Int.toNat i) (cod 1).d).1, (List.getD l (l_i + Int.toNat i) (cod 1).d).2.1,     (List.getD l (l_i + Int.toNat i) (cod 1).d).2.2)) (
  .ret (.fin (.c (.int .i64 i)) [])) (
  .need (i64ok (i + 1)) (
  .ret (.cut (cutAt Try.f39 2) ⟨tmG 10 [(0, .c (.slc 0 (l_i) (l_n) l_t)), (0, .c (.fn 40 [(1, 0, 0)])), (5, .c (.int .i64 (Int.ofNat l_n))), (0, .c (.int .i64 (i + 1)))], [.inp 1 l, .rblk [.int .i64 m]]⟩)))))) (
 .ret (.fin (.c (.int .i64 (-1))) [])) := by kernel_rfl



theorem sntF_run (l : List (Int × Int × Int)) (l_t : Bool) (l_i l_n : Nat) (m : Int) (b0 : Base) (hb : b0.n = 2) (h0 : l_i + l_n ≤ List.length l) (h1 : l_n ≤ 1000000) : Sym.Runs Try.prog b0 [.code (codeOf Try.f39)] ⟨argsS Try.f39 [.c (.slc 0 l_i l_n l_t), .c (.fn 40 [(1, 0, 0)])], ([.inp 1 l, .rblk [.int .i64 m]] : Heap cod)⟩ (Sym.Ends Try.prog Try.f39 2 (.c (.int .i64 (F.snt ((l.drop l_i).take l_n) m))) []) := by
  have hT : ((l.drop l_i).take l_n).length = l_n := by rw [List.length_take, List.length_drop]; omega
  have gT : ∀ j : Nat, j < l_n → ((l.drop l_i).take l_n).getD j (cod 1).d = l.getD (l_i + j) (cod 1).d := fun j hj => F.getD_part l (cod 1).d l_i l_n j hj
  generalize eT : (l.drop l_i).take l_n = TT at *
  have key : ∀ (r : Nat) (i : Int), 0 ≤ i → i + r = l_n → F.snt TT m = F.sntG m (TT.drop i.toNat) i →
      Sym.Runs Try.prog b0 (cutAt Try.f39 2) (st_sntF_2 l l_t l_i l_n m i) (Sym.Ends Try.prog Try.f39 2 (.c (.int .i64 (F.snt TT m))) []) := by
    intro r
    induction r with
    | zero =>
      intro i hi hm hR
      refine Runs.go (cfg := C_snt1) L_snt1_ok mixed cuts_sntF 400 hb (sntF_t2 l l_t l_i l_n m i) ?_
      have hx : ¬ i < (l_n : Int) := by omega
      rw [drop_end TT (by omega)] at hR
      simp only [T.wp, T.wp_cond, Aft, Int.ofNat_eq_natCast, decide_eq_true_eq, and_true, true_and, Nat.zero_add, Bool.not_eq_true', decide_eq_false_iff_not]
      refine ite_no hx ?_
      rw [hR]
      rfl
    | succ r ih =>
      intro i hi hm hR
      refine Runs.go (cfg := C_snt1) L_snt1_ok mixed cuts_sntF 400 hb (sntF_t2 l l_t l_i l_n m i) ?_
      have hx : i < (l_n : Int) := by omega
      rw [drop_at TT (cod 1).d hi (by omega), gT _ (by omega)] at hR
      have nx := ih (i + 1) (by omega) (by omega)
      simp only [T.wp, T.wp_cond, Aft, Int.ofNat_eq_natCast, decide_eq_true_eq, and_true, true_and, Nat.zero_add, Bool.not_eq_true', decide_eq_false_iff_not]
      generalize l.getD (l_i + i.toNat) (cod 1).d = p at *
      refine ite_yes hx ⟨⟨hi, hx⟩, by omega, ?_⟩
      by_cases e : F.isS m p = true
      · refine ite_yes e ?_
        rw [hR, F.sntG, if_pos e]
      · refine ite_no e ⟨by unfold Sym.i64ok; omega, nx ?_⟩
        rw [hR, F.sntG, if_neg e]
  refine Runs.go (cfg := C_snt1) L_snt1_ok mixed cuts_sntF 400 hb (sntF_t0 l l_t l_i l_n m) ?_
  simp only [T.wp, T.wp_cond, Aft, Int.ofNat_eq_natCast, decide_eq_true_eq, and_true, true_and, Nat.zero_add, Bool.not_eq_true', decide_eq_false_iff_not]
  exact key l_n 0 (by omega) (by omega) rfl



noncomputable def s_sntF : Summ cod := fun args H => match args, H with
  | [.c (.slc 0 l_i l_n l_t), .c (.fn 40 [(1, 0, 0)])], [o0, .rblk [.int .i64 m]] => (match o0.asInp 1 with | some l => .need ((l_i + l_n ≤ List.length l) ∧ (l_n ≤ 1000000)) (.ret (.c (.int .i64 (F.snt ((l.drop l_i).take l_n) m)), [])) | none => .fail)
  | _, _ => .fail


theorem sntF_sound : Sound Try.prog cod 39 s_sntF := sound_runs (cfg := C_snt1) L_snt1_ok mixed Try.func39 rfl rfl _ fun args H r news hg b0 hb => by
  unfold s_sntF at hg
  split at hg
  · skip
    split at hg
    · rename_i l hx0
      cases asInp_spec hx0
      simp only [T.gives, T.wp, Prod.mk.injEq] at hg
      obtain ⟨⟨q0, q1⟩, rfl, rfl⟩ := hg
      exact sntF_run _ _ _ _ _ b0 hb (by assumption) (by assumption)
    · exact hg.elim
  · exact hg.elim

noncomputable def L_sntF : Sums cod := (39, .p s_sntF) :: L_snt1
noncomputable def C_sntF : Cfg cod := mkC L_sntF

theorem L_sntF_ok : Snd Try.prog cod L_sntF := .cons sntF_sound L_snt1_ok



def cuts_snt : Cuts := []

theorem snt_t0 (l : List (Int × Int × Int)) (l_t : Bool) (l_i l_n : Nat) (m : Int) : symF C_sntF cuts_snt Try.f29.results.toList 1 400 [.code (codeOf Try.f29)] ⟨argsS Try.f29 [.c (.slc 0 l_i l_n l_t), .c (.int .i64 m)], ([.inp 1 l] : Heap cod)⟩ =
.need ((l_i + l_n ≤ List.length l ∧ l_n ≤ 1000000)) (
.ret (.fin (.c (.int .i64 (F.snt (List.take l_n (List.drop l_i l)) m))) [])) := by kernel_rfl



theorem snt_run (l : List (Int × Int × Int)) (l_t : Bool) (l_i l_n : Nat) (m : Int) (b0 : Base) (hb : b0.n = 1) (h0 : l_i + l_n ≤ List.length l) (h1 : l_n ≤ 1000000) : Sym.Runs Try.prog b0 [.code (codeOf Try.f29)] ⟨argsS Try.f29 [.c (.slc 0 l_i l_n l_t), .c (.int .i64 m)], ([.inp 1 l] : Heap cod)⟩ (Sym.Ends Try.prog Try.f29 1 (.c (.int .i64 (F.snt ((l.drop l_i).take l_n) m))) []) := by
  refine Runs.go (cfg := C_sntF) L_sntF_ok mixed cuts_snt 400 hb (snt_t0 l l_t l_i l_n m) ?_
  simp only [T.wp, T.wp_cond, Aft, Int.ofNat_eq_natCast, decide_eq_true_eq, and_true, true_and, Nat.zero_add, Bool.not_eq_true', decide_eq_false_iff_not]
  exact ⟨h0, h1⟩



noncomputable def s_snt : Summ cod := fun args H => match args, H with
  | [.c (.slc 0 l_i l_n l_t), .c (.int .i64 m)], [o0] => (match o0.asInp 1 with | some l => .need ((l_i + l_n ≤ List.length l) ∧ (l_n ≤ 1000000)) (.ret (.c (.int .i64 (F.snt ((l.drop l_i).take l_n) m)), [])) | none => .fail)
  | _, _ => .fail


theorem snt_sound : Sound Try.prog cod 29 s_snt := sound_runs (cfg := C_sntF) L_sntF_ok mixed Try.func29 rfl rfl _ fun args H r news hg b0 hb => by
  unfold s_snt at hg
  split at hg
  · skip
    split at hg
    · rename_i l hx0
      cases asInp_spec hx0
      simp only [T.gives, T.wp, Prod.mk.injEq] at hg
      obtain ⟨⟨q0, q1⟩, rfl, rfl⟩ := hg
      exact snt_run _ _ _ _ _ b0 hb (by assumption) (by assumption)
    · exact hg.elim
  · exact hg.elim

noncomputable def L_snt : Sums cod := (29, .p s_snt) :: L_sntF
noncomputable def C_snt : Cfg cod := mkC L_snt

theorem L_snt_ok : Snd Try.prog cod L_snt := .cons snt_sound L_sntF_ok



def cuts_chk : Cuts := [(4, [0, 8, 9, 10], 1)]

theorem chk_t0 (l : List (Int × Int × Int)) (l_t : Bool) : symF C_snt cuts_chk Try.f10.results.toList 1 400 [.code (codeOf Try.f10)] ⟨argsS Try.f10 [.c (.slc 0 0 (List.length l) l_t)], ([.inp 1 l] : Heap cod)⟩ =
 cond (decide (200 < Int.ofNat (List.length l))) (
 .ret (.fin (.c (.int .i64 2)) [])) (
 .ret (.cut (cutAt Try.f10 4) ⟨tmG 59 [(0, .c (.slc 0 0 (List.length l) l_t)), (7, .c (.slc 0 0 (List.length l) l_t)), (0, .c (.int .i64 (Int.ofNat (List.length l)))), (0, .c (.int .i64 0))], [.inp 1 l]⟩)) := by kernel_rfl


noncomputable def st_chk_4 (l : List (Int × Int × Int)) (l_t : Bool) (i : Int) : St cod := ⟨tmG 59 [(0, .c (.slc 0 0 (List.length l) l_t)), (7, .c (.slc 0 0 (List.length l) l_t)), (0, .c (.int .i64 (Int.ofNat (List.length l)))), (0, .c (.int .i64 i))], [.inp 1 l]⟩


theorem chk_t4 (l : List (Int × Int × Int)) (l_t : Bool) (i : Int) : symF C_snt cuts_chk Try.f10.results.toList 1 400 (cutAt Try.f10 4) (st_chk_4 l l_t i) =
 cond (decide (i < Int.ofNat (List.length l))) (
 .need (((0 : Int) ≤ i ∧ i < Int.ofNat (List.length l))) (
 .need (0 + Int.toNat i < List.length l) (
 cond (decide ((List.getD l (0 + Int.toNat i) (cod 1).d).1 < 0)) (
  .ret (.fin (.c (.int .i64 4)) [])) (
  cond (decide (8 ≤ (List.getD l (0 + Int.toNat i) (cod 1).d).1)) (
   .ret (.fin (.c (.int .i64 4)) [])) (
   cond (decide ((List.getD l (0 + Int.toNat i) (cod 1).d).2.1 < 0)) (
    .ret (.fin (.c (.int .i64 4)) [])) (
    cond (decide (2 < (List.getD l (0 + Int.toNat i) (cod 1).d).2.1)) (
     .ret (.fin (.c (.int .i64 4)) [])) (
     cond (decide ((List.getD l (0 + Int.toNat i) (cod 1).d).2.1 = 0)) (
      cond (!decide ((List.getD l (0 + Int.toNat i) (cod 1).d).2.2 = 0)) (
       .ret (.fin (.c (.int .i64 3)) [])) (
       cond (decide ((List.getD l (0 + Int.toNat i) (cod 1).d).2.1 = 1)) (
        .need (((0 : Int) ≤ i ∧ i ≤ Int.ofNat (List.length l))) (
        .need ((0 + Int.toNat i ≤ List.length l ∧ Int.toNat i ≤ 1000000)) (
        cond (decide (0 ≤ F.snt (List.take (Int.toNat i) (List.drop 0 l)) (List.getD l (0 + Int.toNat i) (cod 1).d).2.2)) (
         .ret (.fin (.c (.int .i64 7)) [])) (
         cond (decide ((List.getD l (0 + Int.toNat i) (cod 1).d).2.1 = 2)) (
          .need (((0 : Int) ≤ i ∧ i ≤ Int.ofNat (List.length l))) (
          .need ((0 + Int.toNat i ≤ List.length l ∧ Int.toNat i ≤ 1000000)) (
          cond (decide (F.snt (List.take (Int.toNat i) (List.drop 0 l)) (List.getD l (0 + Int.toNat i) (cod 1).d).2.2 < 0)) (
           .ret (.fin (.c (.int .i64 21)) [])) (
           .need (i64ok (i + 1)) (
           .ret (.cut (cutAt Try.f10 4) ⟨tmG 59 [(0, .c (.slc 0 0 (List.length l) l_t)), (7, .c (.slc 0 0 (List.length l) l_t)), (0, .c (.int .i64 (Int.ofNat (List.length l)))), (0, .c (.int .i64 (i + 1)))], [.inp 1 l]⟩)))))) (
          .need (i64ok (i + 1)) (
          .ret (.cut (cutAt Try.f10 4) ⟨tmG 59 [(0, .c (.slc 0 0 (List.length l) l_t)), (7, .c (.slc 0 0 (List.length l) l_t)), (0, .c (.int .i64 (Int.ofNat (List.length l)))), (0, .c (.int .i64 (i + 1)))], [.inp 1 l]⟩))))))) (
        cond (decide ((List.getD l (0 + Int.toNat i) (cod 1).d).2.1 = 2)) (
         .need (((0 : Int) ≤ i ∧ i ≤ Int.ofNat (List.length l))) (
         .need ((0 + Int.toNat i ≤ List.length l ∧ Int.toNat i ≤ 1000000)) (
         cond (decide (F.snt (List.take (Int.toNat i) (List.drop 0 l)) (List.getD l (0 + Int.toNat i) (cod 1).d).2.2 < 0)) (
          .ret (.fin (.c (.int .i64 21)) [])) (
          .need (i64ok (i + 1)) (
          .ret (.cut (cutAt Try.f10 4) ⟨tmG 59 [(0, .c (.slc 0 0 (List.length l) l_t)), (7, .c (.slc 0 0 (List.length l) l_t)), (0, .c (.int .i64 (Int.ofNat (List.length l)))), (0, .c (.int .i64 (i + 1)))], [.inp 1 l]⟩)))))) (
         .need (i64ok (i + 1)) (
         .ret (.cut (cutAt Try.f10 4) ⟨tmG 59 [(0, .c (.slc 0 0 (List.length l) l_t)), (7, .c (.slc 0 0 (List.length l) l_t)), (0, .c (.int .i64 (Int.ofNat (List.length l)))), (0, .c (.int .i64 (i + 1)))], [.inp 1 l]⟩)))))) (
      cond (decide ((List.getD l (0 + Int.toNat i) (cod 1).d).2.1 = 1)) (
       .need (((0 : Int) ≤ i ∧ i ≤ Int.ofNat (List.length l))) (
       .need ((0 + Int.toNat i ≤ List.length l ∧ Int.toNat i ≤ 1000000)) (
       cond (decide (0 ≤ F.snt (List.take (Int.toNat i) (List.drop 0 l)) (List.getD l (0 + Int.toNat i) (cod 1).d).2.2)) (
        .ret (.fin (.c (.int .i64 7)) [])) (
        cond (decide ((List.getD l (0 + Int.toNat i) (cod 1).d).2.1 = 2)) (
         .need (((0 : Int) ≤ i ∧ i ≤ Int.ofNat (List.length l))) (
         .need ((0 + Int.toNat i ≤ List.length l ∧ Int.toNat i ≤ 1000000)) (
         cond (decide (F.snt (List.take (Int.toNat i) (List.drop 0 l)) (List.getD l (0 + Int.toNat i) (cod 1).d).2.2 < 0)) (
          .ret (.fin (.c (.int .i64 21)) [])) (
          .need (i64ok (i + 1)) (
          .ret (.cut (cutAt Try.f10 4) ⟨tmG 59 [(0, .c (.slc 0 0 (List.length l) l_t)), (7, .c (.slc 0 0 (List.length l) l_t)), (0, .c (.int .i64 (Int.ofNat (List.length l)))), (0, .c (.int .i64 (i + 1)))], [.inp 1 l]⟩)))))) (
         .need (i64ok (i + 1)) (
         .ret (.cut (cutAt Try.f10 4) ⟨tmG 59 [(0, .c (.slc 0 0 (List.length l) l_t)), (7, .c (.slc 0 0 (List.length l) l_t)), (0, .c (.int .i64 (Int.ofNat (List.length l)))), (0, .c (.int .i64 (i + 1)))], [.inp 1 l]⟩))))))) (
       cond (decide ((List.getD l (0 + Int.toNat i) (cod 1).d).2.1 = 2)) (
        .need (((0 : Int) ≤ i ∧ i ≤ Int.ofNat (List.length l))) (
        .need ((0 + Int.toNat i ≤ List.length l ∧ Int.toNat i ≤ 1000000)) (
        cond (decide (F.snt (List.take (Int.toNat i) (List.drop 0 l)) (List.getD l (0 + Int.toNat i) (cod 1).d).2.2 < 0)) (
         .ret (.fin (.c (.int .i64 21)) [])) (
         .need (i64ok (i + 1)) (
         .ret (.cut (cutAt Try.f10 4) ⟨tmG 59 [(0, .c (.slc 0 0 (List.length l) l_t)), (7, .c (.slc 0 0 (List.length l) l_t)), (0, .c (.int .i64 (Int.ofNat (List.length l)))), (0, .c (.int .i64 (i + 1)))], [.inp 1 l]⟩)))))) (
        .need (i64ok (i + 1)) (
        .ret (.cut (cutAt Try.f10 4) ⟨tmG 59 [(0, .c (.slc 0 0 (List.length l) l_t)), (7, .c (.slc 0 0 (List.length l) l_t)), (0, .c (.int .i64 (Int.ofNat (List.length l)))), (0, .c (.int .i64 (i + 1)))], [.inp 1 l]⟩)))))))))))) (
 .ret (.fin (.c (.int .i64 0)) [])) := by kernel_rfl



theorem chk_run (l : List (Int × Int × Int)) (l_t : Bool) (b0 : Base) (hb : b0.n = 1) (h0 : l.length ≤ 1000000) : Sym.Runs Try.prog b0 [.code (codeOf Try.f10)] ⟨argsS Try.f10 [.c (.slc 0 0 (List.length l) l_t)], ([.inp 1 l] : Heap cod)⟩ (Sym.Ends Try.prog Try.f10 1 (.c (.int .i64 (F.chk l))) []) := by
  have key : ∀ (r : Nat) (i : Int), 0 ≤ i → i + r = l.length → F.chk l = F.chkG l r i.toNat →
      Sym.Runs Try.prog b0 (cutAt Try.f10 4) (st_chk_4 l l_t i) (Sym.Ends Try.prog Try.f10 1 (.c (.int .i64 (F.chk l))) []) := by
    intro r
    induction r with
    | zero =>
      intro i hi hm hR
      refine Runs.go (cfg := C_snt) L_snt_ok mixed cuts_chk 400 hb (chk_t4 l l_t i) ?_
      have hx : ¬ i < (l.length : Int) := by omega
      simp only [T.wp, T.wp_cond, Aft, Int.ofNat_eq_natCast, decide_eq_true_eq, and_true, true_and, Nat.zero_add, Bool.not_eq_true', decide_eq_false_iff_not]
      refine ite_no hx ?_
      rw [hR]
      rfl
    | succ r ih =>
      intro i hi hm hR
      refine Runs.go (cfg := C_snt) L_snt_ok mixed cuts_chk 400 hb (chk_t4 l l_t i) ?_
      have hx : i < (l.length : Int) := by omega
      have nx := ih (i + 1) (by omega) (by omega)
      have e0 : (i + 1).toNat = i.toNat + 1 := by omega
      rw [e0] at nx
      rw [F.chkG] at hR
      have hE : F.chkE l i.toNat = F.chkE l i.toNat := rfl
      conv at hE => rhs; unfold F.chkE
      simp only [Bool.or_eq_true, decide_eq_true_iff] at hE
      simp only [T.wp, T.wp_cond, Aft, Int.ofNat_eq_natCast, decide_eq_true_eq, and_true, true_and, Nat.zero_add, Bool.not_eq_true', decide_eq_false_iff_not, Nat.zero_add, List.drop_zero]
      have ed : (cod 1).d = F.ev0 := rfl
      rw [ed]
      generalize l.getD i.toNat F.ev0 = p at *
      generalize F.snt (l.take i.toNat) p.2.2 = q at *
      refine ite_yes hx ⟨⟨hi, hx⟩, by omega, ?_⟩
      generalize F.chkE l i.toNat = E at *
      have hend : ∀ c : Int, E = c → c ≠ 0 → F.chk l = c := by
        intro c h hc
        rw [hR, if_neg (by omega), h]
      have hgo := fun h : E = 0 => nx (by rw [hR, if_pos h])
      clear nx hR ih
      have hD : ((p.1 < 0 ∨ 8 ≤ p.1 ∨ p.2.1 < 0 ∨ 2 < p.2.1) ∧ E = 4) ∨ (¬ (p.1 < 0 ∨ 8 ≤ p.1 ∨ p.2.1 < 0 ∨ 2 < p.2.1) ∧ ((p.2.1 = 0 ∧ ¬ p.2.2 = 0 ∧ E = 3) ∨ (p.2.1 = 0 ∧ p.2.2 = 0 ∧ E = 0) ∨ (p.2.1 = 1 ∧ 0 ≤ q ∧ E = 7) ∨ (p.2.1 = 1 ∧ q < 0 ∧ E = 0) ∨ (p.2.1 = 2 ∧ q < 0 ∧ E = 21) ∨ (p.2.1 = 2 ∧ 0 ≤ q ∧ E = 0))) := by
        rw [hE]
        (repeat' split) <;> omega
      repeat' first | (refine F.ite_both (fun _ => ?_) (fun _ => ?_)) | (with_reducible refine And.intro ?_ ?_)
      all_goals first
        | omega
        | (unfold Sym.i64ok; omega)
        | (have e9 : E = 4 := by omega
           rw [hend 4 e9 (by decide)]; done)
        | (have e9 : E = 3 := by omega
           rw [hend 3 e9 (by decide)]; done)
        | (have e9 : E = 7 := by omega
           rw [hend 7 e9 (by decide)]; done)
        | (have e9 : E = 21 := by omega
           rw [hend 21 e9 (by decide)]; done)
        | (have e9 : E = 0 := by omega
           exact hgo e9)
  refine Runs.go (cfg := C_snt) L_snt_ok mixed cuts_chk 400 hb (chk_t0 l l_t) ?_
  simp only [T.wp, T.wp_cond, Aft, Int.ofNat_eq_natCast, decide_eq_true_eq, and_true, true_and, Nat.zero_add, Bool.not_eq_true', decide_eq_false_iff_not]
  by_cases h2 : 200 < (l.length : Int)
  · refine ite_yes h2 ?_
    unfold F.chk
    rw [if_pos (by omega)]
  · refine ite_no h2 ?_
    refine key l.length 0 (by omega) (by omega) ?_
    unfold F.chk
    rw [if_neg (by omega)]
    rfl



noncomputable def s_chk : Summ cod := fun args H => match args, H with
  | [.c (.slc 0 l_i l_n l_t)], [o0] => (match o0.asInp 1 with | some l => .need ((l_i = 0 ∧ l_n = List.length l) ∧ (l.length ≤ 1000000)) (.ret (.c (.int .i64 (F.chk l)), [])) | none => .fail)
  | _, _ => .fail


theorem chk_sound : Sound Try.prog cod 10 s_chk := sound_runs (cfg := C_snt) L_snt_ok mixed Try.func10 rfl rfl _ fun args H r news hg b0 hb => by
  unfold s_chk at hg
  split at hg
  · skip
    split at hg
    · rename_i l hx0
      cases asInp_spec hx0
      simp only [T.gives, T.wp, Prod.mk.injEq] at hg
      obtain ⟨⟨⟨rfl, rfl⟩, q1⟩, rfl, rfl⟩ := hg
      exact chk_run _ _ b0 hb (by assumption)
    · exact hg.elim
  · exact hg.elim

noncomputable def L_chk : Sums cod := (10, .p s_chk) :: L_snt
noncomputable def C_chk : Cfg cod := mkC L_chk

theorem L_chk_ok : Snd Try.prog cod L_chk := .cons chk_sound L_snt_ok



def cuts_everr : Cuts := [(4, [0, 11, 12, 13], 1), (8, [4, 20, 0, 11, 12, 13, 21, 22, 5], 2)]

theorem everr_t0 (l : List (Int × Int × Int)) (l_t : Bool) : symF C_chk cuts_everr Try.f9.results.toList 1 400 [.code (codeOf Try.f9)] ⟨argsS Try.f9 [.c (.slc 0 0 (List.length l) l_t)], ([.inp 1 l] : Heap cod)⟩ =
 cond (decide (200 < Int.ofNat (List.length l))) (
 .ret (.fin (.c (.int .i64 2)) [])) (
 .ret (.cut (cutAt Try.f9 4) ⟨tmG 58 [(0, .c (.slc 0 0 (List.length l) l_t)), (10, .c (.slc 0 0 (List.length l) l_t)), (0, .c (.int .i64 (Int.ofNat (List.length l)))), (0, .c (.int .i64 0))], [.inp 1 l]⟩)) := by kernel_rfl


noncomputable def st_everr_4 (l : List (Int × Int × Int)) (l_t : Bool) (i : Int) : St cod := ⟨tmG 58 [(0, .c (.slc 0 0 (List.length l) l_t)), (10, .c (.slc 0 0 (List.length l) l_t)), (0, .c (.int .i64 (Int.ofNat (List.length l)))), (0, .c (.int .i64 i))], [.inp 1 l]⟩


theorem everr_t4 (l : List (Int × Int × Int)) (l_t : Bool) (i : Int) : symF C_chk cuts_everr Try.f9.results.toList 1 400 (cutAt Try.f9 4) (st_everr_4 l l_t i) =
 cond (decide (i < Int.ofNat (List.length l))) (
 .need (((0 : Int) ≤ i ∧ i < Int.ofNat (List.length l))) (
 .need (0 + Int.toNat i < List.length l) (
 .need (((0 : Int) ≤ i ∧ i ≤ Int.ofNat (List.length l))) (
 .ret (.cut (cutAt Try.f9 8) ⟨tmG 49 [(0, .c (.slc 0 0 (List.length l) l_t)), (3, .c (.ptr 1 0 0)), (0, .c (.bool false)), (5, .c (.slc 0 0 (List.length l) l_t)), (0, .c (.int .i64 (Int.ofNat (List.length l)))), (0, .c (.int .i64 i)), (6, .c (.slc 0 0 (Int.toNat i) false)), (0, .c (.int .i64 (Int.ofNat (Int.toNat i)))), (0, .c (.int .i64 0))], [.inp 1 l, .blk [.int .i64 ((List.getD l (0 + Int.toNat i) (cod 1).d).1), .int .i64 ((List.getD l (0 + Int.toNat i) (cod 1).d).2.1), .int .i64 ((List.getD l (0 + Int.toNat i) (cod 1).d).2.2)] 37]⟩))))) (
 .ret (.fin (.c (.int .i64 0)) [])) := by kernel_rfl


noncomputable def st_everr_8 (l : List (Int × Int × Int)) (l_t : Bool) (i a1 a2 a3 : Int) (sn : Bool) (n : Nat) (j : Int) : St cod := ⟨tmG 49 [(0, .c (.slc 0 0 (List.length l) l_t)), (3, .c (.ptr 1 0 0)), (0, .c (.bool sn)), (5, .c (.slc 0 0 (List.length l) l_t)), (0, .c (.int .i64 (Int.ofNat (List.length l)))), (0, .c (.int .i64 i)), (6, .c (.slc 0 0 n false)), (0, .c (.int .i64 n)), (0, .c (.int .i64 j))], ([.inp 1 l, .blk [.int .i64 a1, .int .i64 a2, .int .i64 a3] 37] : Heap cod)⟩


theorem everr_t8 (l : List (Int × Int × Int)) (l_t : Bool) (i a1 a2 a3 : Int) (sn : Bool) (n : Nat) (j : Int) : symF C_chk cuts_everr Try.f9.results.toList 1 400 (cutAt Try.f9 8) (st_everr_8 l l_t i a1 a2 a3 sn n j) =
 cond (decide (j < Int.ofNat n)) (
 .need (((0 : Int) ≤ j ∧ j < Int.ofNat n)) (
 .need (0 + Int.toNat j < List.length l) (
 cond (sn) (
  .need (i64ok (j + 1)) (
  .ret (.cut (cutAt Try.f9 8) ⟨tmG 49 [(0, .c (.slc 0 0 (List.length l) l_t)), (3, .c (.ptr 1 0 0)), (0, .c (.bool true)), (5, .c (.slc 0 0 (List.length l) l_t)), (0, .c (.int .i64 (Int.ofNat (List.length l)))), (0, .c (.int .i64 i)), (6, .c (.slc 0 0 (n) false)), (0, .c (.int .i64 (Int.ofNat n))), (0, .c (.int .i64 (j + 1)))], [.inp 1 l, .blk [.int .i64 a1, .int .i64 a2, .int .i64 a3] 37]⟩))) (
  cond (decide ((List.getD l (0 + Int.toNat j) (cod 1).d).2.1 = 1)) (
   .need (i64ok (j + 1)) (
   .ret (.cut (cutAt Try.f9 8) ⟨tmG 49 [(0, .c (.slc 0 0 (List.length l) l_t)), (3, .c (.ptr 1 0 0)), (0, .c (.bool (decide ((List.getD l (0 + Int.toNat j) (cod 1).d).2.2 = a3)))), (5, .c (.slc 0 0 (List.length l) l_t)), (0, .c (.int .i64 (Int.ofNat (List.length l)))), (0, .c (.int .i64 i)), (6, .c (.slc 0 0 (n) false)), (0, .c (.int .i64 (Int.ofNat n))), (0, .c (.int .i64 (j + 1)))], [.inp 1 l, .blk [.int .i64 a1, .int .i64 a2, .int .i64 a3] 37]⟩))) (
   .need (i64ok (j + 1)) (
   .ret (.cut (cutAt Try.f9 8) ⟨tmG 49 [(0, .c (.slc 0 0 (List.length l) l_t)), (3, .c (.ptr 1 0 0)), (0, .c (.bool false)), (5, .c (.slc 0 0 (List.length l) l_t)), (0, .c (.int .i64 (Int.ofNat (List.length l)))), (0, .c (.int .i64 i)), (6, .c (.slc 0 0 (n) false)), (0, .c (.int .i64 (Int.ofNat n))), (0, .c (.int .i64 (j + 1)))], [.inp 1 l, .blk [.int .i64 a1, .int .i64 a2, .int .i64 a3] 37]⟩))))))) (
 cond (!F.inb a1 0 7) (
  .ret (.fin (.c (.int .i64 4)) [])) (
  cond (!F.inb a2 0 2) (
   .ret (.fin (.c (.int .i64 4)) [])) (
   cond (decide (a2 = 0)) (
    cond (!decide (a3 = 0)) (
     .ret (.fin (.c (.int .i64 3)) [])) (
     cond (decide (a2 = 1)) (
      cond (sn) (
       .ret (.fin (.c (.int .i64 7)) [])) (
       cond (decide (a2 = 2)) (
        cond (!sn) (
         .ret (.fin (.c (.int .i64 21)) [])) (
         .need (i64ok (i + 1)) (
         .ret (.cut (cutAt Try.f9 4) ⟨tmG 58 [(0, .c (.slc 0 0 (List.length l) l_t)), (10, .c (.slc 0 0 (List.length l) l_t)), (0, .c (.int .i64 (Int.ofNat (List.length l)))), (0, .c (.int .i64 (i + 1)))], [.inp 1 l]⟩)))) (
        .need (i64ok (i + 1)) (
        .ret (.cut (cutAt Try.f9 4) ⟨tmG 58 [(0, .c (.slc 0 0 (List.length l) l_t)), (10, .c (.slc 0 0 (List.length l) l_t)), (0, .c (.int .i64 (Int.ofNat (List.length l)))), (0, .c (.int .i64 (i + 1)))], [.inp 1 l]⟩))))) (
      cond (decide (a2 = 2)) (
       cond (!sn) (
        .ret (.fin (.c (.int .i64 21)) [])) (
        .need (i64ok (i + 1)) (
        .ret (.cut (cutAt Try.f9 4) ⟨tmG 58 [(0, .c (.slc 0 0 (List.length l) l_t)), (10, .c (.slc 0 0 (List.length l) l_t)), (0, .c (.int .i64 (Int.ofNat (List.length l)))), (0, .c (.int .i64 (i + 1)))], [.inp 1 l]⟩)))) (
       .need (i64ok (i + 1)) (
       .ret (.cut (cutAt Try.f9 4) ⟨tmG 58 [(0, .c (.slc 0 0 (List.length l) l_t)), (10, .c (.slc 0 0 (List.length l) l_t)), (0, .c (.int .i64 (Int.ofNat (List.length l)))), (0, .c (.int .i64 (i + 1)))], [.inp 1 l]⟩)))))) (
    cond (decide (a2 = 1)) (
     cond (sn) (
      .ret (.fin (.c (.int .i64 7)) [])) (
      cond (decide (a2 = 2)) (
       cond (!sn) (
        .ret (.fin (.c (.int .i64 21)) [])) (
        .need (i64ok (i + 1)) (
        .ret (.cut (cutAt Try.f9 4) ⟨tmG 58 [(0, .c (.slc 0 0 (List.length l) l_t)), (10, .c (.slc 0 0 (List.length l) l_t)), (0, .c (.int .i64 (Int.ofNat (List.length l)))), (0, .c (.int .i64 (i + 1)))], [.inp 1 l]⟩)))) (
       .need (i64ok (i + 1)) (
       .ret (.cut (cutAt Try.f9 4) ⟨tmG 58 [(0, .c (.slc 0 0 (List.length l) l_t)), (10, .c (.slc 0 0 (List.length l) l_t)), (0, .c (.int .i64 (Int.ofNat (List.length l)))), (0, .c (.int .i64 (i + 1)))], [.inp 1 l]⟩))))) (
     cond (decide (a2 = 2)) (
      cond (!sn) (
       .ret (.fin (.c (.int .i64 21)) [])) (
       .need (i64ok (i + 1)) (
       .ret (.cut (cutAt Try.f9 4) ⟨tmG 58 [(0, .c (.slc 0 0 (List.length l) l_t)), (10, .c (.slc 0 0 (List.length l) l_t)), (0, .c (.int .i64 (Int.ofNat (List.length l)))), (0, .c (.int .i64 (i + 1)))], [.inp 1 l]⟩)))) (
      .need (i64ok (i + 1)) (
      .ret (.cut (cutAt Try.f9 4) ⟨tmG 58 [(0, .c (.slc 0 0 (List.length l) l_t)), (10, .c (.slc 0 0 (List.length l) l_t)), (0, .c (.int .i64 (Int.ofNat (List.length l)))), (0, .c (.int .i64 (i + 1)))], [.inp 1 l]⟩)))))))) := by kernel_rfl



theorem everr_run (l : List (Int × Int × Int)) (l_t : Bool) (b0 : Base) (hb : b0.n = 1) (h0 : l.length ≤ 1000000) : Sym.Runs Try.prog b0 [.code (codeOf Try.f9)] ⟨argsS Try.f9 [.c (.slc 0 0 (List.length l) l_t)], ([.inp 1 l] : Heap cod)⟩ (Sym.Ends Try.prog Try.f9 1 (.c (.int .i64 (F.chk l))) []) := by
  have key : ∀ (r : Nat) (i : Int), 0 ≤ i → i + r = l.length → F.chk l = F.chkG l r i.toNat →
      Sym.Runs Try.prog b0 (cutAt Try.f9 4) (st_everr_4 l l_t i) (Sym.Ends Try.prog Try.f9 1 (.c (.int .i64 (F.chk l))) []) := by
    intro r
    induction r with
    | zero =>
      intro i hi hm hR
      refine Runs.go (cfg := C_chk) L_chk_ok mixed cuts_everr 400 hb (everr_t4 l l_t i) ?_
      have hx : ¬ i < (l.length : Int) := by omega
      simp only [T.wp, T.wp_cond, Aft, Int.ofNat_eq_natCast, decide_eq_true_eq, and_true, true_and, Nat.zero_add, Bool.not_eq_true', decide_eq_false_iff_not]
      refine ite_no hx ?_
      rw [hR]
      rfl
    | succ r ih =>
      intro i hi hm hR
      refine Runs.go (cfg := C_chk) L_chk_ok mixed cuts_everr 400 hb (everr_t4 l l_t i) ?_
      have hx : i < (l.length : Int) := by omega
      have nx := ih (i + 1) (by omega) (by omega)
      have e0 : (i + 1).toNat = i.toNat + 1 := by omega
      rw [e0] at nx
      rw [F.chkG] at hR
      have hE : F.chkE l i.toNat = F.chkE l i.toNat := rfl
      conv at hE => rhs; unfold F.chkE
      simp only [Bool.or_eq_true, decide_eq_true_iff] at hE
      simp only [T.wp, T.wp_cond, Aft, Int.ofNat_eq_natCast, decide_eq_true_eq, and_true, true_and, Nat.zero_add, Bool.not_eq_true', decide_eq_false_iff_not, Nat.zero_add]
      have ed : (cod 1).d = F.ev0 := rfl
      rw [ed]
      have hany := F.snt_any (l.getD i.toNat F.ev0).2.2 (l.take i.toNat)
      generalize l.getD i.toNat F.ev0 = p at *
      generalize F.snt (l.take i.toNat) p.2.2 = q at *
      refine ite_yes hx ⟨⟨hi, hx⟩, by omega, ⟨hi, by omega⟩, ?_⟩
      generalize F.chkE l i.toNat = E at *
      have hend : ∀ c : Int, E = c → c ≠ 0 → F.chk l = c := by
        intro c h hc
        rw [hR, if_neg (by omega), h]
      have hgo := fun h : E = 0 => nx (by rw [hR, if_pos h])
      clear nx hR ih
      have hD : ((p.1 < 0 ∨ 8 ≤ p.1 ∨ p.2.1 < 0 ∨ 2 < p.2.1) ∧ E = 4) ∨ (¬ (p.1 < 0 ∨ 8 ≤ p.1 ∨ p.2.1 < 0 ∨ 2 < p.2.1) ∧ ((p.2.1 = 0 ∧ ¬ p.2.2 = 0 ∧ E = 3) ∨ (p.2.1 = 0 ∧ p.2.2 = 0 ∧ E = 0) ∨ (p.2.1 = 1 ∧ 0 ≤ q ∧ E = 7) ∨ (p.2.1 = 1 ∧ q < 0 ∧ E = 0) ∨ (p.2.1 = 2 ∧ q < 0 ∧ E = 21) ∨ (p.2.1 = 2 ∧ 0 ≤ q ∧ E = 0))) := by
        rw [hE]
        (repeat' split) <;> omega
      have inner : ∀ (r2 : Nat) (j : Int) (sn : Bool), 0 ≤ j → j + r2 = i → sn = (l.take j.toNat).any (F.isS p.2.2) →
          Sym.Runs Try.prog b0 (cutAt Try.f9 8) (st_everr_8 l l_t i p.1 p.2.1 p.2.2 sn i.toNat j) (Sym.Ends Try.prog Try.f9 1 (.c (.int .i64 (F.chk l))) []) := by
        intro r2
        induction r2 with
        | zero =>
          intro j sn hj hm hs
          refine Runs.go (cfg := C_chk) L_chk_ok mixed cuts_everr 400 hb (everr_t8 l l_t i p.1 p.2.1 p.2.2 sn i.toNat j) ?_
          have ej : j = i := by omega
          rw [ej, ← hany] at hs
          have hy : ¬ j < Int.ofNat i.toNat := by simp only [Int.ofNat_eq_natCast]; omega
          unfold F.inb
          simp only [T.wp, T.wp_cond, Aft, Int.ofNat_eq_natCast, decide_eq_true_eq, and_true, true_and, Nat.zero_add, Bool.not_eq_true', decide_eq_false_iff_not, Bool.not_eq_true', Bool.and_eq_false_iff, decide_eq_false_iff_not]
          refine ite_no (by omega) ?_
          by_cases hq : 0 ≤ q
          · rw [decide_eq_true hq] at hs
            subst hs
            simp only [if_true, Bool.true_eq_false, if_false]
            repeat' first | (refine F.ite_both (fun _ => ?_) (fun _ => ?_)) | (with_reducible refine And.intro ?_ ?_)
            all_goals first
              | omega
              | (unfold Sym.i64ok; omega)
              | (have e9 : E = 4 := by omega
                 rw [hend 4 e9 (by decide)]; done)
              | (have e9 : E = 3 := by omega
                 rw [hend 3 e9 (by decide)]; done)
              | (have e9 : E = 7 := by omega
                 rw [hend 7 e9 (by decide)]; done)
              | (have e9 : E = 21 := by omega
                 rw [hend 21 e9 (by decide)]; done)
              | (have e9 : E = 0 := by omega
                 exact hgo e9)
          · rw [decide_eq_false hq] at hs
            subst hs
            simp only [if_true, Bool.false_eq_true, if_false]
            repeat' first | (refine F.ite_both (fun _ => ?_) (fun _ => ?_)) | (with_reducible refine And.intro ?_ ?_)
            all_goals first
              | omega
              | (unfold Sym.i64ok; omega)
              | (have e9 : E = 4 := by omega
                 rw [hend 4 e9 (by decide)]; done)
              | (have e9 : E = 3 := by omega
                 rw [hend 3 e9 (by decide)]; done)
              | (have e9 : E = 7 := by omega
                 rw [hend 7 e9 (by decide)]; done)
              | (have e9 : E = 21 := by omega
                 rw [hend 21 e9 (by decide)]; done)
              | (have e9 : E = 0 := by omega
                 exact hgo e9)
        | succ r2 ih =>
          intro j sn hj hm hs
          refine Runs.go (cfg := C_chk) L_chk_ok mixed cuts_everr 400 hb (everr_t8 l l_t i p.1 p.2.1 p.2.2 sn i.toNat j) ?_
          have e1 : (j + 1).toNat = j.toNat + 1 := by omega
          have nx := fun (s : Bool) (h : s = (sn || F.isS p.2.2 (l.getD j.toNat F.ev0))) => ih (j + 1) s (by omega) (by omega) (by rw [e1, F.take_any l _ _ (by omega), ← hs]; exact h)
          simp only [T.wp, T.wp_cond, Aft, Int.ofNat_eq_natCast, decide_eq_true_eq, and_true, true_and, Nat.zero_add, Bool.not_eq_true', decide_eq_false_iff_not, Nat.zero_add]
          rw [ed]
          generalize l.getD j.toNat F.ev0 = y at *
          refine ite_yes (by omega) ⟨⟨hj, by omega⟩, by omega, ?_⟩
          have hk : Sym.i64ok (j + 1) := by unfold Sym.i64ok; omega
          cases sn with
          | true => exact ite_yes rfl ⟨hk, nx true (by simp)⟩
          | false =>
            refine ite_no (by simp) ?_
            by_cases ek : y.2.1 = 1
            · exact ite_yes ek ⟨hk, nx _ (by simp [F.isS, ek])⟩
            · exact ite_no ek ⟨hk, nx _ (by simp [F.isS, ek])⟩
      exact inner i.toNat 0 false (by omega) (by omega) (by simp)
  refine Runs.go (cfg := C_chk) L_chk_ok mixed cuts_everr 400 hb (everr_t0 l l_t) ?_
  simp only [T.wp, T.wp_cond, Aft, Int.ofNat_eq_natCast, decide_eq_true_eq, and_true, true_and, Nat.zero_add, Bool.not_eq_true', decide_eq_false_iff_not]
  by_cases h2 : 200 < (l.length : Int)
  · refine ite_yes h2 ?_
    unfold F.chk
    rw [if_pos (by omega)]
  · refine ite_no h2 ?_
    refine key l.length 0 (by omega) (by omega) ?_
    unfold F.chk
    rw [if_neg (by omega)]
    rfl



noncomputable def s_everr : Summ cod := fun args H => match args, H with
  | [.c (.slc 0 l_i l_n l_t)], [o0] => (match o0.asInp 1 with | some l => .need ((l_i = 0 ∧ l_n = List.length l) ∧ (l.length ≤ 1000000)) (.ret (.c (.int .i64 (F.chk l)), [])) | none => .fail)
  | _, _ => .fail


theorem everr_sound : Sound Try.prog cod 9 s_everr := sound_runs (cfg := C_chk) L_chk_ok mixed Try.func9 rfl rfl _ fun args H r news hg b0 hb => by
  unfold s_everr at hg
  split at hg
  · skip
    split at hg
    · rename_i l hx0
      cases asInp_spec hx0
      simp only [T.gives, T.wp, Prod.mk.injEq] at hg
      obtain ⟨⟨⟨rfl, rfl⟩, q1⟩, rfl, rfl⟩ := hg
      exact everr_run _ _ b0 hb (by assumption)
    · exact hg.elim
  · exact hg.elim

noncomputable def L_everr : Sums cod := (9, .p s_everr) :: L_chk
noncomputable def C_everr : Cfg cod := mkC L_everr

theorem L_everr_ok : Snd Try.prog cod L_everr := .cons everr_sound L_chk_ok


end
end Go.Proofs.Ytgmnfdmlidhbcaa
