/- Parts of the proof, one behind the other: Wc, Sym35. -/
import Derived.Test.YtbkpgpkeecnjpaaWb
import Derived.Test.YtbkpgpkeecnjpaaBd31
import Derived.Test.YtbkpgpkeecnjpaaBd25
section
namespace Go.Proofs.Ytbkpgpkeecnjpaa
open Sym Go.RowKit
noncomputable section
set_option maxRecDepth 100000
set_option maxHeartbeats 4000000



namespace F
def chkP (r t : Int) (p : Int × Int × Int × Int × Int × Int) : Int :=
  if p.1 = r ∧ p.2.1 = t then plot p.1 p.2.1 p.2.2.1 p.2.2.2.1 p.2.2.2.2.1 p.2.2.2.2.2 else 3
def chkL (r t : Int) : List (Int × Int × Int × Int × Int × Int) → Int
  | [] => 0
  | p :: ps => if chkP r t p = 0 then chkL r t ps else chkP r t p
def chk (r t : Int) (l : List (Int × Int × Int × Int × Int × Int)) : Int :=
  if 32 < l.length then 2 else if inb r 0 255 && inb t 0 200000 then chkL r t l else 4
end F


theorem chkP_3 {r t a b c d e f : Int} (h : ¬ (a = r ∧ b = t)) : F.chkP r t (a, b, c, d, e, f) = 3 := by
  unfold F.chkP
  exact if_neg h
theorem chkP_in {r t a b c d e f : Int} (h1 : a = r) (h2 : b = t) : F.chkP r t (a, b, c, d, e, f) = F.plot a b c d e f := by
  unfold F.chkP
  exact if_pos ⟨h1, h2⟩
theorem plot_ok {a b c d e f : Int} (h : (0 ≤ a ∧ a ≤ 255) ∧ (0 ≤ b ∧ b ≤ 200000) ∧ (0 ≤ c ∧ c ≤ 2000000) ∧ (0 ≤ d ∧ d ≤ 4095) ∧ (0 ≤ e ∧ e ≤ 60000) ∧ (-1 ≤ f ∧ f ≤ 4095)) : F.plot a b c d e f = 0 := by
  obtain ⟨⟨h1, h2⟩, ⟨h3, h4⟩, ⟨h5, h6⟩, ⟨h7, h8⟩, ⟨h9, h10⟩, h11, h12⟩ := h
  unfold F.plot F.inb
  rw [decide_eq_true h1, decide_eq_true h2, decide_eq_true h3, decide_eq_true h4, decide_eq_true h5, decide_eq_true h6, decide_eq_true h7, decide_eq_true h8, decide_eq_true h9, decide_eq_true h10, decide_eq_true h11, decide_eq_true h12]
  rfl
theorem plot_no {a b c d e f : Int} (h : ¬ ((0 ≤ c ∧ c ≤ 2000000) ∧ (0 ≤ d ∧ d ≤ 4095) ∧ (0 ≤ e ∧ e ≤ 60000) ∧ (-1 ≤ f ∧ f ≤ 4095))) : F.plot a b c d e f = 4 := by
  unfold F.plot F.inb
  refine if_neg ?_
  simp only [Bool.and_eq_true, decide_eq_true_eq]
  omega
theorem plot_two (a b c d e f : Int) : F.plot a b c d e f = 0 ∨ F.plot a b c d e f = 4 := by
  unfold F.plot
  split
  · exact .inl rfl
  · exact .inr rfl
theorem chk_step {r t : Int} {p : Int × Int × Int × Int × Int × Int} {ps : List (Int × Int × Int × Int × Int × Int)} (h : F.chkP r t p = 0) : F.chkL r t (p :: ps) = F.chkL r t ps := by
  rw [F.chkL, if_pos h]
theorem chk_stop {r t n : Int} {p : Int × Int × Int × Int × Int × Int} {ps : List (Int × Int × Int × Int × Int × Int)} (h : F.chkP r t p = n) (hn : n ≠ 0) : F.chkL r t (p :: ps) = n := by
  rw [F.chkL, if_neg (by rw [h]; exact hn), h]
theorem chk_in {r t : Int} {l : List (Int × Int × Int × Int × Int × Int)} (h : ¬ 32 < l.length) (h1 : 0 ≤ r ∧ r ≤ 255) (h2 : 0 ≤ t ∧ t ≤ 200000) : F.chk r t l = F.chkL r t l := by
  unfold F.chk F.inb
  rw [if_neg h, decide_eq_true h1.1, decide_eq_true h1.2, decide_eq_true h2.1, decide_eq_true h2.2]
  rfl
theorem chk_out {r t : Int} {l : List (Int × Int × Int × Int × Int × Int)} (h : ¬ 32 < l.length) (h1 : ¬ ((0 ≤ r ∧ r ≤ 255) ∧ (0 ≤ t ∧ t ≤ 200000))) : F.chk r t l = 4 := by
  unfold F.chk F.inb
  rw [if_neg h, if_neg]
  simp only [Bool.and_eq_true, decide_eq_true_eq]
  omega


def cuts_chk : Cuts := [(6, [1, 30, 31, 32], 2)]

theorem chk_t0 (r t : Int) (l : List (Int × Int × Int × Int × Int × Int)) (l_t : Bool) : symF C_csum cuts_chk Try.f13.results.toList 1 400 [.code (codeOf Try.f13)] ⟨argsS Try.f13 [.agg [.int .i64 r, .int .i64 t, .slc 0 0 (List.length l) l_t]], ([.inp 2 l] : Heap cod)⟩ =
 cond (decide (32 < Int.ofNat (List.length l))) (
 .ret (.fin (.c (.int .i64 2)) [])) (
 cond (decide (r < 0)) (
  .ret (.fin (.c (.int .i64 4)) [])) (
  cond (decide (255 < r)) (
   .ret (.fin (.c (.int .i64 4)) [])) (
   cond (decide (t < 0)) (
    .ret (.fin (.c (.int .i64 4)) [])) (
    cond (decide (200000 < t)) (
     .ret (.fin (.c (.int .i64 4)) [])) (
     .ret (.cut (cutAt Try.f13 6) ⟨tmG 54 [(1, .c (.ptr 1 0 0)), (28, .c (.slc 0 0 (List.length l) l_t)), (0, .c (.int .i64 (Int.ofNat (List.length l)))), (0, .c (.int .i64 0))], [.inp 2 l, .blk [.int .i64 r, .int .i64 t, .slc 0 0 (List.length l) l_t] 24]⟩)))))) := by kernel_rfl


noncomputable def st_chk_6 (r t : Int) (l : List (Int × Int × Int × Int × Int × Int)) (l_t : Bool) (j : Int) : St cod := ⟨tmG 54 [(1, .c (.ptr 1 0 0)), (28, .c (.slc 0 0 (List.length l) l_t)), (0, .c (.int .i64 (Int.ofNat (List.length l)))), (0, .c (.int .i64 j))], [.inp 2 l, .blk [.int .i64 r, .int .i64 t, .slc 0 0 (List.length l) l_t] 24]⟩


theorem chk_t6 (r t : Int) (l : List (Int × Int × Int × Int × Int × Int)) (l_t : Bool) (j : Int) : symF C_csum cuts_chk Try.f13.results.toList 1 400 (cutAt Try.f13 6) (st_chk_6 r t l l_t j) =
 cond (decide (j < Int.ofNat (List.length l))) (
 .need (((0 : Int) ≤ j ∧ j < Int.ofNat (List.length l))) (
 .need (0 + Int.toNat j < List.length l) (
 cond (!decide ((List.getD l (0 + Int.toNat j) (cod 2).d).1 = r)) (
  .ret (.fin (.c (.int .i64 3)) [])) (
  cond (!decide ((List.getD l (0 + Int.toNat j) (cod 2).d).2.1 = t)) (
   .ret (.fin (.c (.int .i64 3)) [])) (
   cond (decide ((List.getD l (0 + Int.toNat j) (cod 2).d).2.2.1 < 0)) (
    .ret (.fin (.c (.int .i64 4)) [])) (
    cond (decide (2000000 < (List.getD l (0 + Int.toNat j) (cod 2).d).2.2.1)) (
     .ret (.fin (.c (.int .i64 4)) [])) (
     cond (decide ((List.getD l (0 + Int.toNat j) (cod 2).d).2.2.2.1 < 0)) (
      .ret (.fin (.c (.int .i64 4)) [])) (
      cond (decide (4095 < (List.getD l (0 + Int.toNat j) (cod 2).d).2.2.2.1)) (
       .ret (.fin (.c (.int .i64 4)) [])) (
       cond (decide ((List.getD l (0 + Int.toNat j) (cod 2).d).2.2.2.2.1 < 0)) (
        .ret (.fin (.c (.int .i64 4)) [])) (
        cond (decide (60000 < (List.getD l (0 + Int.toNat j) (cod 2).d).2.2.2.2.1)) (
         .ret (.fin (.c (.int .i64 4)) [])) (
         cond (decide ((List.getD l (0 + Int.toNat j) (cod 2).d).2.2.2.2.2 < -1)) (
          .ret (.fin (.c (.int .i64 4)) [])) (
          cond (decide (4095 < (List.getD l (0 + Int.toNat j) (cod 2).d).2.2.2.2.2)) (
           .ret (.fin (.c (.int .i64 4)) [])) (
           .need (Sym.i64ok (j + 1)) (
           .ret (.cut (cutAt Try.f13 6) ⟨tmG 54 [(1, .c (.ptr 1 0 0)), (28, .c (.slc 0 0 (List.length l) l_t)), (0, .c (.int .i64 (Int.ofNat (List.length l)))), (0, .c (.int .i64 (j + 1)))], [.inp 2 l, .blk [.int .i64 r, .int .i64 t, .slc 0 0 (List.length l) l_t] 24]⟩))))))))))))))) (
 .ret (.fin (.c (.int .i64 0)) [])) := by kernel_rfl



theorem chk_run (r t : Int) (l : List (Int × Int × Int × Int × Int × Int)) (l_t : Bool) (b0 : Base) (hb : b0.n = 1)  : Sym.Runs Try.prog b0 [.code (codeOf Try.f13)] ⟨argsS Try.f13 [.agg [.int .i64 r, .int .i64 t, .slc 0 0 (List.length l) l_t]], ([.inp 2 l] : Heap cod)⟩ (Sym.Ends Try.prog Try.f13 1 (.c (.int .i64 (F.chk r t l))) []) := by
  have key : l.length ≤ 32 → ∀ (m : Nat) (j : Int), 0 ≤ j → j + m = l.length → (0 ≤ r ∧ r ≤ 255) → (0 ≤ t ∧ t ≤ 200000) → F.chk r t l = F.chkL r t (l.drop j.toNat) →
      Sym.Runs Try.prog b0 (cutAt Try.f13 6) (st_chk_6 r t l l_t j) (Sym.Ends Try.prog Try.f13 1 (.c (.int .i64 (F.chk r t l))) []) := by
    intro h32 m
    induction m with
    | zero =>
      intro j hj hm hr ht hl
      refine Runs.go (cfg := C_csum) L_csum_ok mixed cuts_chk 400 hb (chk_t6 r t l l_t j) ?_
      have h1 : ¬ j < (l.length : Int) := by omega
      rw [drop_end l h1] at hl
      simp only [T.wp, T.wp_cond, Aft, Int.ofNat_eq_natCast, decide_eq_true_eq, and_true, true_and, Nat.zero_add, Bool.not_eq_true', decide_eq_false_iff_not]
      refine ite_no h1 ?_
      rw [hl]
      rfl
    | succ m ih =>
      intro j hj hm hr ht hl
      refine Runs.go (cfg := C_csum) L_csum_ok mixed cuts_chk 400 hb (chk_t6 r t l l_t j) ?_
      have h1 : j < (l.length : Int) := by omega
      rw [drop_at l (cod 2).d hj h1] at hl
      have nx := ih (j + 1) (by omega) (by omega) hr ht
      have hj1 : i64ok (j + 1) := by unfold i64ok; omega
      simp only [T.wp, T.wp_cond, Aft, Int.ofNat_eq_natCast, decide_eq_true_eq, and_true, true_and, Nat.zero_add, Bool.not_eq_true', decide_eq_false_iff_not, Nat.zero_add]
      refine ite_yes h1 (And.intro ⟨hj, h1⟩ (And.intro (by omega) ?_))
      generalize l.getD j.toNat (cod 2).d = p at *
      obtain ⟨a, b, c, d, e, f⟩ := p
      rw [hl]
      by_cases c1 : a = r
      · by_cases c2 : b = t
        · refine ite_no (fun q => q c1) (ite_no (fun q => q c2) ?_)
          by_cases k : (0 ≤ c ∧ c ≤ 2000000) ∧ (0 ≤ d ∧ d ≤ 4095) ∧ (0 ≤ e ∧ e ≤ 60000) ∧ (-1 ≤ f ∧ f ≤ 4095)
          · have k0 : F.chkP r t (a, b, c, d, e, f) = 0 := by rw [chkP_in c1 c2]; exact plot_ok ⟨by omega, by omega, k.1, k.2.1, k.2.2.1, k.2.2.2⟩
            rw [chk_step k0] at hl ⊢
            have nx := nx hl
            rw [hl] at nx
            exact ite_no (show ¬ c < 0 by omega) (ite_no (show ¬ 2000000 < c by omega) (ite_no (show ¬ d < 0 by omega) (ite_no (show ¬ 4095 < d by omega) (ite_no (show ¬ e < 0 by omega) (ite_no (show ¬ 60000 < e by omega) (ite_no (show ¬ f < -1 by omega) (ite_no (show ¬ 4095 < f by omega) (And.intro hj1 nx))))))))
          · have k0 : F.chkP r t (a, b, c, d, e, f) = 4 := by rw [chkP_in c1 c2]; exact plot_no k
            rw [chk_stop k0 (by decide)]
            (repeat' split) <;> first | rfl | (exfalso; simp only at *; omega)
        · rw [chk_stop (chkP_3 fun q => c2 q.2) (by decide)]
          exact ite_no (fun q => q c1) (ite_yes c2 rfl)
      · rw [chk_stop (chkP_3 fun q => c1 q.1) (by decide)]
        exact ite_yes c1 rfl
  refine Runs.go (cfg := C_csum) L_csum_ok mixed cuts_chk 400 hb (chk_t0 r t l l_t) ?_
  simp only [T.wp, T.wp_cond, Aft, Int.ofNat_eq_natCast, decide_eq_true_eq, and_true, true_and, Nat.zero_add, Bool.not_eq_true', decide_eq_false_iff_not]
  by_cases k : 32 < l.length
  · refine ite_yes (by omega) ?_
    unfold F.chk
    rw [if_pos k]
  · refine ite_no (by omega) ?_
    by_cases kr : (0 ≤ r ∧ r ≤ 255) ∧ (0 ≤ t ∧ t ≤ 200000)
    · exact ite_no (show ¬ r < 0 by omega) (ite_no (show ¬ 255 < r by omega) (ite_no (show ¬ t < 0 by omega) (ite_no (show ¬ 200000 < t by omega) (key (by omega) l.length 0 (by omega) (by omega) kr.1 kr.2 (chk_in k kr.1 kr.2)))))
    · rw [chk_out k kr]
      (repeat' split) <;> first | rfl | (exfalso; omega)



noncomputable def s_chk : Summ cod := fun args H => match args, H with
  | [.agg [.int .i64 r, .int .i64 t, .slc 0 l_i l_n l_t]], [o0] => (match o0.asInp 2 with | some l => .need ((l_i = 0 ∧ l_n = List.length l)) (.ret (.c (.int .i64 (F.chk r t l)), [])) | none => .fail)
  | _, _ => .fail


theorem chk_sound : Sound Try.prog cod 13 s_chk := sound_runs (cfg := C_csum) L_csum_ok mixed Try.func13 rfl rfl _ fun args H r news hg b0 hb => by
  unfold s_chk at hg
  split at hg
  · skip
    split at hg
    · rename_i l hx0
      cases asInp_spec hx0
      simp only [T.gives, T.wp, Prod.mk.injEq] at hg
      obtain ⟨⟨rfl, rfl⟩, rfl, rfl⟩ := hg
      exact chk_run _ _ _ _ b0 hb 
    · exact hg.elim
  · exact hg.elim

noncomputable def L_chk : Sums cod := (13, .p s_chk) :: L_csum
noncomputable def C_chk : Cfg cod := mkC L_chk

theorem L_chk_ok : Snd Try.prog cod L_chk := .cons chk_sound L_csum_ok



def cuts_frE : Cuts := [(6, [1, 21, 22, 23], 2)]

theorem frE_t0 (r t : Int) (l : List (Int × Int × Int × Int × Int × Int)) (l_t : Bool) : symF C_chk cuts_frE Try.f12.results.toList 1 400 [.code (codeOf Try.f12)] ⟨argsS Try.f12 [.agg [.int .i64 r, .int .i64 t, .slc 0 0 (List.length l) l_t]], ([.inp 2 l] : Heap cod)⟩ =
 cond (decide (32 < Int.ofNat (List.length l))) (
 .ret (.fin (.c (.int .i64 2)) [])) (
 cond (!F.inb r 0 255) (
  .ret (.fin (.c (.int .i64 4)) [])) (
  cond (!F.inb t 0 200000) (
   .ret (.fin (.c (.int .i64 4)) [])) (
   .ret (.cut (cutAt Try.f12 6) ⟨tmG 21 [(1, .c (.ptr 1 0 0)), (19, .c (.slc 0 0 (List.length l) l_t)), (0, .c (.int .i64 (Int.ofNat (List.length l)))), (0, .c (.int .i64 0))], [.inp 2 l, .blk [.int .i64 r, .int .i64 t, .slc 0 0 (List.length l) l_t] 24]⟩)))) := by kernel_rfl


noncomputable def st_frE_6 (r t : Int) (l : List (Int × Int × Int × Int × Int × Int)) (l_t : Bool) (j : Int) : St cod := ⟨tmG 21 [(1, .c (.ptr 1 0 0)), (19, .c (.slc 0 0 (List.length l) l_t)), (0, .c (.int .i64 (Int.ofNat (List.length l)))), (0, .c (.int .i64 j))], [.inp 2 l, .blk [.int .i64 r, .int .i64 t, .slc 0 0 (List.length l) l_t] 24]⟩


theorem frE_t6 (r t : Int) (l : List (Int × Int × Int × Int × Int × Int)) (l_t : Bool) (j : Int) : symF C_chk cuts_frE Try.f12.results.toList 1 400 (cutAt Try.f12 6) (st_frE_6 r t l l_t j) =
 cond (decide (j < Int.ofNat (List.length l))) (
 .need (((0 : Int) ≤ j ∧ j < Int.ofNat (List.length l))) (
 .need (0 + Int.toNat j < List.length l) (
 cond (!decide ((List.getD l (0 + Int.toNat j) (cod 2).d).1 = r)) (
  .ret (.fin (.c (.int .i64 3)) [])) (
  cond (!decide ((List.getD l (0 + Int.toNat j) (cod 2).d).2.1 = t)) (
   .ret (.fin (.c (.int .i64 3)) [])) (
   cond (!decide     (F.plot (List.getD l (0 + Int.toNat j) (cod 2).d).1 (List.getD l (0 + Int.toNat j) (cod 2).d).2.1         (List.getD l (0 + Int.toNat j) (cod 2).d).2.2.1 (List.getD l (0 + Int.toNat j) (cod 2).d).2.2.2.1         (List.getD l (0 + Int.toNat j) (cod 2).d).2.2.2.2.1 (List.getD l (0 + Int.toNat j) (cod 2).d).2.2.2.2.2 =       0)) (
    .ret (.fin (.c (.int .i64 (F.plot (List.getD l (0 + Int.toNat j) (cod 2).d).1 (List.getD l (0 + Int.toNat j) (cod 2).d).2.1   (List.getD l (0 + Int.toNat j) (cod 2).d).2.2.1 (List.getD l (0 + Int.toNat j) (cod 2).d).2.2.2.1   (List.getD l (0 + Int.toNat j) (cod 2).d).2.2.2.2.1 (List.getD l (0 + Int.toNat j) (cod 2).d).2.2.2.2.2))) [])) (
    .need (Sym.i64ok (j + 1)) (
    .ret (.cut (cutAt Try.f12 6) ⟨tmG 21 [(1, .c (.ptr 1 0 0)), (19, .c (.slc 0 0 (List.length l) l_t)), (0, .c (.int .i64 (Int.ofNat (List.length l)))), (0, .c (.int .i64 (j + 1)))], [.inp 2 l, .blk [.int .i64 r, .int .i64 t, .slc 0 0 (List.length l) l_t] 24]⟩)))))))) (
 .ret (.fin (.c (.int .i64 0)) [])) := by kernel_rfl



theorem frE_run (r t : Int) (l : List (Int × Int × Int × Int × Int × Int)) (l_t : Bool) (b0 : Base) (hb : b0.n = 1)  : Sym.Runs Try.prog b0 [.code (codeOf Try.f12)] ⟨argsS Try.f12 [.agg [.int .i64 r, .int .i64 t, .slc 0 0 (List.length l) l_t]], ([.inp 2 l] : Heap cod)⟩ (Sym.Ends Try.prog Try.f12 1 (.c (.int .i64 (F.chk r t l))) []) := by
  have key : l.length ≤ 32 → ∀ (m : Nat) (j : Int), 0 ≤ j → j + m = l.length → F.chk r t l = F.chkL r t (l.drop j.toNat) →
      Sym.Runs Try.prog b0 (cutAt Try.f12 6) (st_frE_6 r t l l_t j) (Sym.Ends Try.prog Try.f12 1 (.c (.int .i64 (F.chk r t l))) []) := by
    intro h32 m
    induction m with
    | zero =>
      intro j hj hm hl
      refine Runs.go (cfg := C_chk) L_chk_ok mixed cuts_frE 400 hb (frE_t6 r t l l_t j) ?_
      have h1 : ¬ j < (l.length : Int) := by omega
      rw [drop_end l h1] at hl
      simp only [T.wp, T.wp_cond, Aft, Int.ofNat_eq_natCast, decide_eq_true_eq, and_true, true_and, Nat.zero_add, Bool.not_eq_true', decide_eq_false_iff_not]
      refine ite_no h1 ?_
      rw [hl]
      rfl
    | succ m ih =>
      intro j hj hm hl
      refine Runs.go (cfg := C_chk) L_chk_ok mixed cuts_frE 400 hb (frE_t6 r t l l_t j) ?_
      have h1 : j < (l.length : Int) := by omega
      rw [drop_at l (cod 2).d hj h1] at hl
      have nx := ih (j + 1) (by omega) (by omega)
      have hj1 : i64ok (j + 1) := by unfold i64ok; omega
      simp only [T.wp, T.wp_cond, Aft, Int.ofNat_eq_natCast, decide_eq_true_eq, and_true, true_and, Nat.zero_add, Bool.not_eq_true', decide_eq_false_iff_not, Nat.zero_add]
      refine ite_yes h1 (And.intro ⟨hj, h1⟩ (And.intro (by omega) ?_))
      generalize l.getD j.toNat (cod 2).d = p at *
      obtain ⟨a, b, c, d, e, f⟩ := p
      rw [hl]
      by_cases c1 : a = r
      · by_cases c2 : b = t
        · refine ite_no (fun q => q c1) (ite_no (fun q => q c2) ?_)
          rcases plot_two a b c d e f with k | k
          · have k0 : F.chkP r t (a, b, c, d, e, f) = 0 := by rw [chkP_in c1 c2]; exact k
            rw [chk_step k0] at hl ⊢
            have nx := nx hl
            rw [hl] at nx
            exact ite_no (fun q => q k) (And.intro hj1 nx)
          · have k0 : F.chkP r t (a, b, c, d, e, f) = 4 := by rw [chkP_in c1 c2]; exact k
            rw [chk_stop k0 (by decide)]
            refine ite_yes (fun q => ?_) ?_
            · rw [k] at q
              exact absurd q (by decide)
            · rw [k]
        · rw [chk_stop (chkP_3 fun q => c2 q.2) (by decide)]
          exact ite_no (fun q => q c1) (ite_yes c2 rfl)
      · rw [chk_stop (chkP_3 fun q => c1 q.1) (by decide)]
        exact ite_yes c1 rfl
  refine Runs.go (cfg := C_chk) L_chk_ok mixed cuts_frE 400 hb (frE_t0 r t l l_t) ?_
  simp only [T.wp, T.wp_cond, Aft, Int.ofNat_eq_natCast, decide_eq_true_eq, and_true, true_and, Nat.zero_add, Bool.not_eq_true', decide_eq_false_iff_not]
  by_cases k : 32 < l.length
  · refine ite_yes (by omega) ?_
    unfold F.chk
    rw [if_pos k]
  · refine ite_no (by omega) ?_
    cases kr : F.inb r 0 255
    · refine ite_yes rfl ?_
      unfold F.chk
      rw [if_neg k, kr]
      rfl
    · refine ite_no (by decide) ?_
      cases kt : F.inb t 0 200000
      · refine ite_yes rfl ?_
        unfold F.chk
        rw [if_neg k, kr, kt]
        rfl
      · refine ite_no (by decide) (key (by omega) l.length 0 (by omega) (by omega) ?_)
        unfold F.chk
        rw [if_neg k, kr, kt]
        rfl



noncomputable def s_frE : Summ cod := fun args H => match args, H with
  | [.agg [.int .i64 r, .int .i64 t, .slc 0 l_i l_n l_t]], [o0] => (match o0.asInp 2 with | some l => .need ((l_i = 0 ∧ l_n = List.length l)) (.ret (.c (.int .i64 (F.chk r t l)), [])) | none => .fail)
  | _, _ => .fail


theorem frE_sound : Sound Try.prog cod 12 s_frE := sound_runs (cfg := C_chk) L_chk_ok mixed Try.func12 rfl rfl _ fun args H r news hg b0 hb => by
  unfold s_frE at hg
  split at hg
  · skip
    split at hg
    · rename_i l hx0
      cases asInp_spec hx0
      simp only [T.gives, T.wp, Prod.mk.injEq] at hg
      obtain ⟨⟨rfl, rfl⟩, rfl, rfl⟩ := hg
      exact frE_run _ _ _ _ b0 hb 
    · exact hg.elim
  · exact hg.elim

noncomputable def L_frE : Sums cod := (12, .p s_frE) :: L_chk
noncomputable def C_frE : Cfg cod := mkC L_frE

theorem L_frE_ok : Snd Try.prog cod L_frE := .cons frE_sound L_chk_ok


end
end Go.Proofs.Ytbkpgpkeecnjpaa
end
section
/- Rows that the call owns, told by kind and type; small helpers for writing summaries. -/
namespace Go.Proofs.Ytbkpgpkeecnjpaa.Sym
open Go.RowKit

section
variable {cod : Nat → Codec} {P : Program}
/-- A row of kind t that the call owns. -/
def HObj.asOwn (t : Nat) (ty : TypeId) : HObj cod → Option (List (cod t).α)
  | .own u l ty' => if h : u = t then (if ty' = ty then some (h ▸ l) else none) else none
  | _ => none
theorem asOwn_spec {t : Nat} {ty : TypeId} {o : HObj cod} {l : List (cod t).α} (h : o.asOwn t ty = some l) : o = .own t l ty := by
  unfold HObj.asOwn at h
  split at h
  · split at h
    · rename_i e
      subst e
      split at h
      · rename_i e
        subst e
        cases h
        rfl
      · cases h
    · cases h
  · cases h
/-- A row of kind t in an array. -/
def HObj.asArr (t : Nat) (ty : TypeId) : HObj cod → Option (List (cod t).α)
  | .arr u l ty' => if h : u = t then (if ty' = ty then some (h ▸ l) else none) else none
  | _ => none
theorem asArr_spec {t : Nat} {ty : TypeId} {o : HObj cod} {l : List (cod t).α} (h : o.asArr t ty = some l) : o = .arr t l ty := by
  unfold HObj.asArr at h
  split at h
  · split at h
    · rename_i e
      subst e
      split at h
      · rename_i e
        subst e
        cases h
        rfl
      · cases h
    · cases h
  · cases h
/-- One function, two summaries, by what its arguments look like. -/
def s_by (p : List SV → Bool) (s1 s2 : Summ cod) : Summ cod := fun args H => cond (p args) (s1 args H) (s2 args H)
theorem Sound.by_ {g : FuncId} (p : List SV → Bool) {s1 s2 : Summ cod} (h1 : Sound P cod g s1) (h2 : Sound P cod g s2) : Sound P cod g (s_by p s1 s2) := by
  refine ⟨h1.enters, fun args H env w vs r news hro G ha hg => ?_⟩
  unfold s_by at hg
  cases hc : p args with
  | true => rw [hc] at hg; exact h1.calls args H env w vs r news hro G ha hg
  | false => rw [hc] at hg; exact h2.calls args H env w vs r news hro G ha hg
theorem SoundI.by_ {g : FuncId} (p : List SV → Bool) {s1 s2 : Summ cod} (h1 : SoundI P cod g s1) (h2 : SoundI P cod g s2) : SoundI P cod g (s_by p s1 s2) := by
  refine ⟨h1.enters, fun args H env w vs r H' G ha hg => ?_⟩
  unfold s_by at hg
  cases hc : p args with
  | true => rw [hc] at hg; exact h1.calls args H env w vs r H' G ha hg
  | false => rw [hc] at hg; exact h2.calls args H env w vs r H' G ha hg
/-- The first argument is a row that the call owns. -/
def ownFirst : List SV → Bool
  | .c (.own _ _) :: _ => true
  | _ => false
end
end Go.Proofs.Ytbkpgpkeecnjpaa.Sym
end
