/- Part of a claim: lemmas on the way to its theorem; each states its own conditions. -/
import Derived.Test.YtkfkfihjdohjfaaBd38
import Derived.Test.YtkfkfihjdohjfaaBd33
namespace Go.Proofs.Ytkfkfihjdohjfaa
open Sym Go.RowKit
noncomputable section
set_option maxRecDepth 100000
set_option maxHeartbeats 4000000


noncomputable def L_sortC : Sums cod := (56, .k s_sortC) :: L_lcmp
noncomputable def C_sortC : Cfg cod := mkC L_sortC

theorem L_sortC_ok : Snd Try.prog cod L_sortC := .consK sortC_sound L_lcmp_ok



namespace F
def old (t g : Int) (x : Co) : Bool := decide (g < t - x.2.2)
def lostC (t g : Int) (l : List Co) : List Co := if wrg t then [] else (if g < 0 then [] else sortL (l.filter (old t g)))
end F


def cuts_clist : Cuts := []

theorem clist_t0 (l : List (List UInt8 × Int × Int)) (l_t : Bool) : symF C_sortC cuts_clist Try.f35.results.toList 2 400 [.code (codeOf Try.f35)] ⟨argsS Try.f35 [.c (.ptr 0 0 0)], ([.rblk [.slc 1 0 (List.length l) l_t], .inp 5 l] : Heap cod)⟩ =
.ite (decide (List.length l = 0)) (
 .need (List.length l = 0) (
 .ret (.fin (.c (.slc 1 0 0 true)) []))) (
 .need ((0 + List.length l ≤ List.length l ∧ ((0 : Nat) < List.length l ∧ List.length l ≤ 1000000))) (
 .ret (.fin (.c (.own 2 (List.length l))) [.own 5 (List.take (List.length l) (List.drop 0 l)) 56]))) := by kernel_rfl



theorem clist_run (l : List (List UInt8 × Int × Int)) (l_t : Bool) (b0 : Base) (hb : b0.n = 2) (h0 : 0 < l.length) (h1 : l.length ≤ 100000) : Sym.Runs Try.prog b0 [.code (codeOf Try.f35)] ⟨argsS Try.f35 [.c (.ptr 0 0 0)], ([.rblk [.slc 1 0 (List.length l) l_t], .inp 5 l] : Heap cod)⟩ (Sym.Ends Try.prog Try.f35 2 (.c (.own 2 (List.length l))) [.own 5 l 56]) := by
  refine Runs.go (cfg := C_sortC) L_sortC_ok mixed cuts_clist 400 hb (clist_t0 l l_t) ?_
  simp only [T.wp, T.wp_cond, Aft, Int.ofNat_eq_natCast, decide_eq_true_eq, and_true, true_and, Nat.zero_add, Bool.not_eq_true', decide_eq_false_iff_not]
  have e : List.take l.length (List.drop 0 l) = l := by rw [List.drop_zero, List.take_length]
  exact ⟨fun e => absurd e (by omega), fun _ => ⟨⟨by omega, by omega, by omega⟩, congrArg (fun x => [HObj.own 5 x 56]) e⟩⟩



noncomputable def s_clist : Summ cod := fun args H => match args, H with
  | [.c (.ptr 0 0 0)], [.rblk [.slc 1 l_i l_n l_t], o1] => (match o1.asInp 5 with | some l => .need ((l_i = 0 ∧ l_n = List.length l) ∧ (0 < l.length) ∧ (l.length ≤ 100000)) (.ret (.c (.own 2 (List.length l)), [.own 5 l 56])) | none => .fail)
  | _, _ => .fail


theorem clist_sound : Sound Try.prog cod 35 s_clist := sound_runs (cfg := C_sortC) L_sortC_ok mixed Try.func35 rfl rfl _ fun args H r news hg b0 hb => by
  unfold s_clist at hg
  split at hg
  · skip
    split at hg
    · rename_i l hx1
      cases asInp_spec hx1
      simp only [T.gives, T.wp, Prod.mk.injEq] at hg
      obtain ⟨⟨⟨rfl, rfl⟩, q1, q2⟩, rfl, rfl⟩ := hg
      exact clist_run _ _ b0 hb (by assumption) (by assumption)
    · exact hg.elim
  · exact hg.elim

noncomputable def L_clist : Sums cod := (35, .p s_clist) :: L_sortC
noncomputable def C_clist : Cfg cod := mkC L_clist

theorem L_clist_ok : Snd Try.prog cod L_clist := .cons clist_sound L_sortC_ok



def cuts_clost : Cuts := [(5, [2, 1, 19, 20, 21, 7], 4)]

theorem clost_t0 (l : List (List UInt8 × Int × Int)) (l_t : Bool) (t : Int) (g : Int) : symF C_clist cuts_clost Try.f38.results.toList 2 400 [.code (codeOf Try.f38)] ⟨argsS Try.f38 [.c (.ptr 0 0 0), .c (.int .i64 t), .c (.int .i64 g)], ([.rblk [.slc 1 0 (List.length l) l_t], .inp 5 l] : Heap cod)⟩ =
 cond (F.wrg t) (
 .ret (.fin (.c (.own 2 0)) [.own 5 [] 56])) (
 cond (decide (g < 0)) (
  .ret (.fin (.c (.own 2 0)) [.own 5 [] 56])) (
  .ret (.cut (cutAt Try.f38 5) ⟨tmG 17 [(1, .c (.int .i64 t)), (0, .c (.int .i64 g)), (4, .c (.own 3 0)), (11, .c (.slc 1 0 (List.length l) l_t)), (0, .c (.int .i64 (Int.ofNat (List.length l)))), (0, .c (.int .i64 0))], [.rblk [.slc 1 0 (List.length l) l_t], .inp 5 l, .own 5 [] 56, .own 5 [] 56]⟩))) := by kernel_rfl


noncomputable def st_clost_5 (l : List (List UInt8 × Int × Int)) (l_t : Bool) (t : Int) (g : Int) (j : Int) (ts : List (List UInt8 × Int × Int)) (q : Nat) : St cod := ⟨tmG 17 [(1, .c (.int .i64 t)), (0, .c (.int .i64 g)), (4, .c (.own 3 q)), (11, .c (.slc 1 0 (List.length l) l_t)), (0, .c (.int .i64 (Int.ofNat (List.length l)))), (0, .c (.int .i64 j))], ([.rblk [.slc 1 0 (List.length l) l_t], .inp 5 l, .own 5 [] 56, .own 5 ts 56] : Heap cod)⟩


theorem clost_t5 (l : List (List UInt8 × Int × Int)) (l_t : Bool) (t : Int) (g : Int) (j : Int) (ts : List (List UInt8 × Int × Int)) (q : Nat) : symF C_clist cuts_clost Try.f38.results.toList 2 400 (cutAt Try.f38 5) (st_clost_5 l l_t t g j ts q) =
 cond (decide (j < Int.ofNat (List.length l))) (
 .need (((0 : Int) ≤ j ∧ j < Int.ofNat (List.length l))) (
 .need (0 + Int.toNat j < List.length l) (
 .need (i64ok (t - (List.getD l (0 + Int.toNat j) (cod 5).d).2.2)) (
 cond (decide (g < t - (List.getD l (0 + Int.toNat j) (cod 5).d).2.2)) (
  .need (1 = 1) (
  .need (q + 1 ≤ 1000000) (
  .need (i64ok (j + 1)) (
  .ret (.cut (cutAt Try.f38 5) ⟨tmG 17 [(1, .c (.int .i64 t)), (0, .c (.int .i64 g)), (4, .c (.own 3 (q + 1))), (11, .c (.slc 1 0 (List.length l) l_t)), (0, .c (.int .i64 (Int.ofNat (List.length l)))), (0, .c (.int .i64 (j + 1)))], [.rblk [.slc 1 0 (List.length l) l_t], .inp 5 l, .own 5 [] 56, .own 5 (ts ++ ([((List.getD l (0 + Int.toNat j) (cod 5).d).1, (List.getD l (0 + Int.toNat j) (cod 5).d).2.1,     (List.getD l (0 + Int.toNat j) (cod 5).d).2.2)])) 56]⟩))))) (
  .need (i64ok (j + 1)) (
  .ret (.cut (cutAt Try.f38 5) ⟨tmG 17 [(1, .c (.int .i64 t)), (0, .c (.int .i64 g)), (4, .c (.own 3 (q))), (11, .c (.slc 1 0 (List.length l) l_t)), (0, .c (.int .i64 (Int.ofNat (List.length l)))), (0, .c (.int .i64 (j + 1)))], [.rblk [.slc 1 0 (List.length l) l_t], .inp 5 l, .own 5 [] 56, .own 5 ts 56]⟩))))))) (
 .need ((F.okC ts ∧ List.length ts ≤ 1000000)) (
 .ret (.fin (.c (.own 2 (q))) [.own 5 (F.sortL ts) 56]))) := by kernel_rfl



theorem asc_filter : ∀ {l : List F.Co}, F.asc l = true → ∀ p : F.Co → Bool, F.asc (l.filter p) = true
  | [], _, _ => rfl
  | a :: l, h, p => by
    obtain ⟨h1, h2⟩ := asc_cons.1 h
    rw [List.filter_cons]
    split
    · exact asc_cons.2 ⟨fun b hb => h1 b (List.mem_filter.1 hb).1, asc_filter h2 p⟩
    · exact asc_filter h2 p
theorem okC_filter {l : List F.Co} (h : F.okC l) (p : F.Co → Bool) : F.okC (l.filter p) := ⟨asc_filter h.1 p, fun x hx => h.2.1 x (List.mem_filter.1 hx).1, Nat.le_trans (List.length_filter_le ..) h.2.2⟩
theorem clost_run (l : List (List UInt8 × Int × Int)) (l_t : Bool) (t : Int) (g : Int) (b0 : Base) (hb : b0.n = 2) (h0 : F.okC l) : Sym.Runs Try.prog b0 [.code (codeOf Try.f38)] ⟨argsS Try.f38 [.c (.ptr 0 0 0), .c (.int .i64 t), .c (.int .i64 g)], ([.rblk [.slc 1 0 (List.length l) l_t], .inp 5 l] : Heap cod)⟩ (Sym.Ends Try.prog Try.f38 2 (.c (.own 2 (List.length (F.lostC t g l)))) [.own 5 (F.lostC t g l) 56]) := by
  have hl20 := h0.2.2
  have key : F.wrg t = false → ¬ g < 0 → ∀ (m : Nat) (j : Int) (ts : List F.Co), 0 ≤ j → j + m = l.length → ts ++ (l.drop j.toNat).filter (F.old t g) = l.filter (F.old t g) → (ts.length : Int) ≤ j →
      Sym.Runs Try.prog b0 (cutAt Try.f38 5) (st_clost_5 l l_t t g j ts ts.length) (Sym.Ends Try.prog Try.f38 2 (.c (.own 2 (List.length (F.lostC t g l)))) [.own 5 (F.lostC t g l) 56]) := by
    intro ht hg m
    have hv : F.lostC t g l = F.sortL (l.filter (F.old t g)) := by unfold F.lostC; rw [ht, if_neg (by decide), if_neg hg]
    have htt : 0 ≤ t ∧ t ≤ 200000 := by simp only [F.wrg, Bool.or_eq_false_iff, decide_eq_false_iff_not] at ht; omega
    induction m with
    | zero =>
      intro j ts hj hm hs hl
      refine Runs.go (cfg := C_clist) L_clist_ok mixed cuts_clost 400 hb (clost_t5 l l_t t g j ts ts.length) ?_
      have h1' : ¬ j < (l.length : Int) := by omega
      rw [drop_end l h1'] at hs
      have e : ts = l.filter (F.old t g) := by rw [← hs]; simp
      simp only [T.wp, T.wp_cond, Aft, Int.ofNat_eq_natCast, decide_eq_true_eq, and_true, true_and, Nat.zero_add, Bool.not_eq_true', decide_eq_false_iff_not]
      refine ite_no h1' ⟨⟨by rw [e]; exact okC_filter h0 _, by omega⟩, ?_⟩
      have el : ts.length = (F.lostC t g l).length := by rw [hv, sortL_len, ← e]
      have eb : F.sortL ts = F.lostC t g l := by rw [hv, ← e]
      rw [el, eb]
      exact ⟨rfl, rfl⟩
    | succ m ih =>
      intro j ts hj hm hs hl
      refine Runs.go (cfg := C_clist) L_clist_ok mixed cuts_clost 400 hb (clost_t5 l l_t t g j ts ts.length) ?_
      have h1' : j < (l.length : Int) := by omega
      have d0 : (cod 5).d = F.co0 := rfl
      rw [drop_at l F.co0 hj h1'] at hs
      have hp : 0 ≤ (l.getD j.toNat F.co0).2.2 ∧ (l.getD j.toNat F.co0).2.2 ≤ 200000 := h0.2.1 _ (by
        rw [List.getD_eq_getElem?_getD, List.getElem?_eq_getElem (by omega : j.toNat < l.length)]
        exact List.getElem_mem _)
      have n1 := ih (j + 1) ts (by omega) (by omega)
      have n2 := ih (j + 1) (ts ++ [l.getD j.toNat F.co0]) (by omega) (by omega)
      simp only [T.wp, T.wp_cond, Aft, Int.ofNat_eq_natCast, decide_eq_true_eq, and_true, true_and, Nat.zero_add, Bool.not_eq_true', decide_eq_false_iff_not, Nat.zero_add, d0]
      generalize l.getD j.toNat F.co0 = p at *
      refine ite_yes h1' ⟨⟨hj, h1'⟩, by omega, by unfold Sym.i64ok; omega, ?_⟩
      by_cases e : g < t - p.2.2
      · rw [List.filter_cons_of_pos (by simp [F.old, e])] at hs
        have el : (ts ++ [p]).length = ts.length + 1 := by simp
        rw [el] at n2
        exact ite_yes e ⟨by omega, by unfold Sym.i64ok; omega, n2 (by rw [← hs]; simp) (by omega)⟩
      · rw [List.filter_cons_of_neg (by simp [F.old, e])] at hs
        exact ite_no e ⟨by unfold Sym.i64ok; omega, n1 hs (by omega)⟩
  refine Runs.go (cfg := C_clist) L_clist_ok mixed cuts_clost 400 hb (clost_t0 l l_t t g) ?_
  simp only [T.wp, T.wp_cond, Aft, Int.ofNat_eq_natCast, decide_eq_true_eq, and_true, true_and, Nat.zero_add, Bool.not_eq_true', decide_eq_false_iff_not]
  have bad : F.lostC t g l = [] → (SV.c (.own 2 0) : SV) = .c (.own 2 (List.length (F.lostC t g l))) ∧ ([.own 5 [] 56] : Heap cod) = [.own 5 (F.lostC t g l) 56] := fun e => by rw [e]; exact ⟨rfl, rfl⟩
  cases ht : F.wrg t with
  | true => exact ite_yes rfl (bad (by unfold F.lostC; rw [ht]; rfl))
  | false =>
    refine ite_no (by decide) ?_
    by_cases hg : g < 0
    · exact ite_yes hg (bad (by unfold F.lostC; rw [ht, if_neg (by decide), if_pos hg]))
    · exact ite_no hg (key ht hg l.length 0 [] (by omega) (by omega) (by simp) (by simp))



noncomputable def s_clost : Summ cod := fun args H => match args, H with
  | [.c (.ptr 0 0 0), .c (.int .i64 t), .c (.int .i64 g)], [.rblk [.slc 1 l_i l_n l_t], o1] => (match o1.asInp 5 with | some l => .need ((l_i = 0 ∧ l_n = List.length l) ∧ (F.okC l)) (.ret (.c (.own 2 (List.length (F.lostC t g l))), [.own 5 (F.lostC t g l) 56])) | none => .fail)
  | _, _ => .fail


theorem clost_sound : Sound Try.prog cod 38 s_clost := sound_runs (cfg := C_clist) L_clist_ok mixed Try.func38 rfl rfl _ fun args H r news hg b0 hb => by
  unfold s_clost at hg
  split at hg
  · skip
    split at hg
    · rename_i l hx1
      cases asInp_spec hx1
      simp only [T.gives, T.wp, Prod.mk.injEq] at hg
      obtain ⟨⟨⟨rfl, rfl⟩, q1⟩, rfl, rfl⟩ := hg
      exact clost_run _ _ _ _ b0 hb (by assumption)
    · exact hg.elim
  · exact hg.elim

noncomputable def L_clost : Sums cod := (38, .p s_clost) :: L_clist
noncomputable def C_clost : Cfg cod := mkC L_clost

theorem L_clost_ok : Snd Try.prog cod L_clost := .cons clost_sound L_clist_ok


end
end Go.Proofs.Ytkfkfihjdohjfaa
