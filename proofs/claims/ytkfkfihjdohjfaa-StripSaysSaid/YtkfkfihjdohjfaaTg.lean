/- Part of a claim: lemmas on the way to its theorem; each states its own conditions. -/
import Derived.Test.YtkfkfihjdohjfaaTf
namespace Go.Proofs.Ytkfkfihjdohjfaa
open Sym Go.RowKit
noncomputable section
set_option maxRecDepth 100000
set_option maxHeartbeats 4000000



namespace F
def wayO (w : Int) : Bool := decide (w = 1) || (decide (w = 12) || (decide (w = 13) || (decide (w = 21) || decide (w = 23))))
def kb (l : List St) (k : Int) : Int := (l.getD k.toNat st0).2.2.2.2
def mvE (l : List St) (k b n : Int) : Int := if inb b 0 3 then (if k < 0 then 8 else (if wayO (10 * kb l k + b) then (if n = 16 then 9 else 0) else 11)) else 4
def mvL (l : List St) (k b n : Int) : List St := if mvE l k b n = 0 then l.set k.toNat (inBay (l.getD k.toNat st0) b) else l
def byO (l : List St) : Prop := ∀ x ∈ l, 0 ≤ x.2.2.2.2 ∧ x.2.2.2.2 ≤ 3
end F


def cuts_snew : Cuts := []

theorem snew_t0  : symF C_brem cuts_snew Try.f6.results.toList 0 400 [.code (codeOf Try.f6)] ⟨argsS Try.f6 [], ([] : Heap cod)⟩ =
.ret (.fin (.c (.ptr 0 0 0)) [.blk [.nil] 71]) := by kernel_rfl



theorem snew_run  (b0 : Base) (hb : b0.n = 0)  : Sym.Runs Try.prog b0 [.code (codeOf Try.f6)] ⟨argsS Try.f6 [], ([] : Heap cod)⟩ (Sym.Ends Try.prog Try.f6 0 (.c (.ptr 0 0 0)) [.blk [.nil] 71]) := by
  refine Runs.go (cfg := C_brem) L_brem_ok mixed cuts_snew 400 hb snew_t0 ?_
  exact ⟨rfl, rfl⟩



noncomputable def s_snew : Summ cod := fun args H => match args, H with
  | [], [] => .ret (.c (.ptr 0 0 0), [.blk [.nil] 71])
  | _, _ => .fail


theorem snew_sound : Sound Try.prog cod 6 s_snew := sound_runs (cfg := C_brem) L_brem_ok mixed Try.func6 rfl rfl _ fun args H r news hg b0 hb => by
  unfold s_snew at hg
  split at hg
  · skip
    cases hg
    exact snew_run  b0 hb 
  · exact hg.elim

noncomputable def L_snew : Sums cod := (6, .p s_snew) :: L_brem
noncomputable def C_snew : Cfg cod := mkC L_snew

theorem L_snew_ok : Snd Try.prog cod L_snew := .cons snew_sound L_brem_ok



def cuts_smvd : Cuts := []

theorem smvd_t0 (l : List (List UInt8 × List UInt8 × Int × Int × Int)) (k b n : Int) : symI C_snew cuts_smvd Try.f14.results.toList ([.own 1 l 26] : Heap cod) 400 [.code (codeOf Try.f14)] ⟨argsS Try.f14 [.c (.own 0 (List.length l)), .c (.int .i64 k), .c (.int .i64 b), .c (.int .i64 n)], ([.own 1 l 26] : Heap cod)⟩ =
 cond (!F.inb b 0 3) (
 .ret (.fin (.c (.int .i64 4)) [.own 1 l 26])) (
 cond (decide (k < 0)) (
  .ret (.fin (.c (.int .i64 8)) [.own 1 l 26])) (
  .need (((0 : Int) ≤ k ∧ k < Int.ofNat (List.length l))) (
  .need (0 + Int.toNat k < List.length l) (
  .need (i64ok (10 * (List.getD l (0 + Int.toNat k) (cod 1).d).2.2.2.2)) (
  .need (i64ok (10 * (List.getD l (0 + Int.toNat k) (cod 1).d).2.2.2.2 + b)) (
  cond (!decide (10 * (List.getD l (0 + Int.toNat k) (cod 1).d).2.2.2.2 + b = 1)) (
   cond (!decide (10 * (List.getD l (0 + Int.toNat k) (cod 1).d).2.2.2.2 + b = 12)) (
    cond (!decide (10 * (List.getD l (0 + Int.toNat k) (cod 1).d).2.2.2.2 + b = 13)) (
     cond (!decide (10 * (List.getD l (0 + Int.toNat k) (cod 1).d).2.2.2.2 + b = 21)) (
      cond (!decide (10 * (List.getD l (0 + Int.toNat k) (cod 1).d).2.2.2.2 + b = 23)) (
       .ret (.fin (.c (.int .i64 11)) [.own 1 l 26])) (
       cond (decide (n = 16)) (
        .ret (.fin (.c (.int .i64 9)) [.own 1 l 26])) (
        .need (((0 : Int) ≤ k ∧ k < Int.ofNat (List.length l))) (
        .need (0 + Int.toNat k < List.length l) (
        .ret (.fin (.c (.int .i64 0)) [.own 1 (List.set l (0 + Int.toNat k)   ((List.getD l (0 + Int.toNat k) (cod 1).d).1, (List.getD l (0 + Int.toNat k) (cod 1).d).2.1,     (List.getD l (0 + Int.toNat k) (cod 1).d).2.2.1, (List.getD l (0 + Int.toNat k) (cod 1).d).2.2.2.1, b)) 26])))))) (
      cond (decide (n = 16)) (
       .ret (.fin (.c (.int .i64 9)) [.own 1 l 26])) (
       .need (((0 : Int) ≤ k ∧ k < Int.ofNat (List.length l))) (
       .need (0 + Int.toNat k < List.length l) (
       .ret (.fin (.c (.int .i64 0)) [.own 1 (List.set l (0 + Int.toNat k)   ((List.getD l (0 + Int.toNat k) (cod 1).d).1, (List.getD l (0 + Int.toNat k) (cod 1).d).2.1,     (List.getD l (0 + Int.toNat k) (cod 1).d).2.2.1, (List.getD l (0 + Int.toNat k) (cod 1).d).2.2.2.1, b)) 26])))))) (
     cond (decide (n = 16)) (
      .ret (.fin (.c (.int .i64 9)) [.own 1 l 26])) (
      .need (((0 : Int) ≤ k ∧ k < Int.ofNat (List.length l))) (
      .need (0 + Int.toNat k < List.length l) (
      .ret (.fin (.c (.int .i64 0)) [.own 1 (List.set l (0 + Int.toNat k)   ((List.getD l (0 + Int.toNat k) (cod 1).d).1, (List.getD l (0 + Int.toNat k) (cod 1).d).2.1,     (List.getD l (0 + Int.toNat k) (cod 1).d).2.2.1, (List.getD l (0 + Int.toNat k) (cod 1).d).2.2.2.1, b)) 26])))))) (
    cond (decide (n = 16)) (
     .ret (.fin (.c (.int .i64 9)) [.own 1 l 26])) (
     .need (((0 : Int) ≤ k ∧ k < Int.ofNat (List.length l))) (
     .need (0 + Int.toNat k < List.length l) (
     .ret (.fin (.c (.int .i64 0)) [.own 1 (List.set l (0 + Int.toNat k)   ((List.getD l (0 + Int.toNat k) (cod 1).d).1, (List.getD l (0 + Int.toNat k) (cod 1).d).2.1,     (List.getD l (0 + Int.toNat k) (cod 1).d).2.2.1, (List.getD l (0 + Int.toNat k) (cod 1).d).2.2.2.1, b)) 26])))))) (
   cond (decide (n = 16)) (
    .ret (.fin (.c (.int .i64 9)) [.own 1 l 26])) (
    .need (((0 : Int) ≤ k ∧ k < Int.ofNat (List.length l))) (
    .need (0 + Int.toNat k < List.length l) (
    .ret (.fin (.c (.int .i64 0)) [.own 1 (List.set l (0 + Int.toNat k)   ((List.getD l (0 + Int.toNat k) (cod 1).d).1, (List.getD l (0 + Int.toNat k) (cod 1).d).2.1,     (List.getD l (0 + Int.toNat k) (cod 1).d).2.2.1, (List.getD l (0 + Int.toNat k) (cod 1).d).2.2.2.1, b)) 26]))))))))))) := by kernel_rfl



theorem smvd_run (l : List (List UInt8 × List UInt8 × Int × Int × Int)) (k b n : Int) (b0 : Base) (hb : b0.n = 1) (h0 : k < l.length) (h1 : F.byO l) : Sym.Runs Try.prog b0 [.code (codeOf Try.f14)] ⟨argsS Try.f14 [.c (.own 0 (List.length l)), .c (.int .i64 k), .c (.int .i64 b), .c (.int .i64 n)], ([.own 1 l 26] : Heap cod)⟩ (Sym.EndsI Try.prog Try.f14 ([.own 1 l 26] : Heap cod) (.c (.int .i64 (F.mvE l k b n))) [.own 1 (F.mvL l k b n) 26]) := by
  refine Runs.goI (cfg := C_snew) L_snew_ok mixed cuts_smvd 400 (H := ([.own 1 l 26] : Heap cod)) hb (smvd_t0 l k b n) ?_
  have d0 : (cod 1).d = F.st0 := rfl
  simp only [T.wp, T.wp_cond, Aft, Int.ofNat_eq_natCast, decide_eq_true_eq, and_true, true_and, Nat.zero_add, Bool.not_eq_true', decide_eq_false_iff_not, Nat.zero_add, d0]
  have bad : ∀ e : Int, e ≠ 0 → F.mvE l k b n = e → (SV.c (.int .i64 e) : SV) = .c (.int .i64 (F.mvE l k b n)) ∧ ([.own 1 l 26] : Heap cod) = [.own 1 (F.mvL l k b n) 26] := by
    intro e he eE
    have eL : F.mvL l k b n = l := by unfold F.mvL; rw [if_neg (by rw [eE]; exact he)]
    rw [eE, eL]
    exact ⟨rfl, rfl⟩
  cases c1 : F.inb b 0 3 with
  | false => exact ite_yes rfl (bad 4 (by decide) (by unfold F.mvE; rw [c1]; rfl))
  | true =>
    have hb3 : 0 ≤ b ∧ b ≤ 3 := by
      unfold F.inb at c1
      simpa using c1
    refine ite_no (by decide) ?_
    by_cases c2 : k < 0
    · exact ite_yes c2 (bad 8 (by decide) (by unfold F.mvE; rw [c1, if_pos rfl, if_pos c2]))
    have hn : 0 ≤ k := by omega
    have hx := h1 (l.getD k.toNat F.st0) (by rw [List.getD_eq_getElem?_getD, List.getElem?_eq_getElem (by omega)]; exact List.getElem_mem _)
    refine ite_no c2 ⟨⟨hn, h0⟩, by omega, by unfold i64ok; omega, by unfold i64ok; omega, ?_⟩
    cases hw : F.wayO (10 * F.kb l k + b) with
    | false =>
      have hw' : ¬ (10 * (l.getD k.toNat F.st0).2.2.2.2 + b = 1) ∧ ¬ (10 * (l.getD k.toNat F.st0).2.2.2.2 + b = 12) ∧ ¬ (10 * (l.getD k.toNat F.st0).2.2.2.2 + b = 13) ∧ ¬ (10 * (l.getD k.toNat F.st0).2.2.2.2 + b = 21) ∧ ¬ (10 * (l.getD k.toNat F.st0).2.2.2.2 + b = 23) := by
        unfold F.wayO F.kb at hw
        simpa using hw
      exact ite_yes hw'.1 (ite_yes hw'.2.1 (ite_yes hw'.2.2.1 (ite_yes hw'.2.2.2.1 (ite_yes hw'.2.2.2.2 (bad 11 (by decide) (by unfold F.mvE; rw [c1, if_pos rfl, if_neg c2, hw]; rfl))))))
    | true =>
      have hw' : 10 * (l.getD k.toNat F.st0).2.2.2.2 + b = 1 ∨ 10 * (l.getD k.toNat F.st0).2.2.2.2 + b = 12 ∨ 10 * (l.getD k.toNat F.st0).2.2.2.2 + b = 13 ∨ 10 * (l.getD k.toNat F.st0).2.2.2.2 + b = 21 ∨ 10 * (l.getD k.toNat F.st0).2.2.2.2 + b = 23 := by
        unfold F.wayO F.kb at hw
        simpa using hw
      rcases hw' with w | w | w | w | w
      · refine ite_no (fun q => q w) ?_
        by_cases c3 : n = 16
        · exact ite_yes c3 (bad 9 (by decide) (by unfold F.mvE; rw [c1, if_pos rfl, if_neg c2, hw, if_pos rfl, if_pos c3]))
        · have eE : F.mvE l k b n = 0 := by unfold F.mvE; rw [c1, if_pos rfl, if_neg c2, hw, if_pos rfl, if_neg c3]
          have eL : F.mvL l k b n = l.set k.toNat (F.inBay (l.getD k.toNat F.st0) b) := by unfold F.mvL; rw [if_pos eE]
          rw [eE, eL]
          exact ite_no c3 ⟨⟨hn, h0⟩, by omega, rfl, rfl⟩
      · refine ite_yes (show ¬ 10 * (l.getD k.toNat F.st0).2.2.2.2 + b = 1 by omega) (ite_no (fun q => q w) ?_)
        by_cases c3 : n = 16
        · exact ite_yes c3 (bad 9 (by decide) (by unfold F.mvE; rw [c1, if_pos rfl, if_neg c2, hw, if_pos rfl, if_pos c3]))
        · have eE : F.mvE l k b n = 0 := by unfold F.mvE; rw [c1, if_pos rfl, if_neg c2, hw, if_pos rfl, if_neg c3]
          have eL : F.mvL l k b n = l.set k.toNat (F.inBay (l.getD k.toNat F.st0) b) := by unfold F.mvL; rw [if_pos eE]
          rw [eE, eL]
          exact ite_no c3 ⟨⟨hn, h0⟩, by omega, rfl, rfl⟩
      · refine ite_yes (show ¬ 10 * (l.getD k.toNat F.st0).2.2.2.2 + b = 1 by omega) (ite_yes (show ¬ 10 * (l.getD k.toNat F.st0).2.2.2.2 + b = 12 by omega) (ite_no (fun q => q w) ?_))
        by_cases c3 : n = 16
        · exact ite_yes c3 (bad 9 (by decide) (by unfold F.mvE; rw [c1, if_pos rfl, if_neg c2, hw, if_pos rfl, if_pos c3]))
        · have eE : F.mvE l k b n = 0 := by unfold F.mvE; rw [c1, if_pos rfl, if_neg c2, hw, if_pos rfl, if_neg c3]
          have eL : F.mvL l k b n = l.set k.toNat (F.inBay (l.getD k.toNat F.st0) b) := by unfold F.mvL; rw [if_pos eE]
          rw [eE, eL]
          exact ite_no c3 ⟨⟨hn, h0⟩, by omega, rfl, rfl⟩
      · refine ite_yes (show ¬ 10 * (l.getD k.toNat F.st0).2.2.2.2 + b = 1 by omega) (ite_yes (show ¬ 10 * (l.getD k.toNat F.st0).2.2.2.2 + b = 12 by omega) (ite_yes (show ¬ 10 * (l.getD k.toNat F.st0).2.2.2.2 + b = 13 by omega) (ite_no (fun q => q w) ?_)))
        by_cases c3 : n = 16
        · exact ite_yes c3 (bad 9 (by decide) (by unfold F.mvE; rw [c1, if_pos rfl, if_neg c2, hw, if_pos rfl, if_pos c3]))
        · have eE : F.mvE l k b n = 0 := by unfold F.mvE; rw [c1, if_pos rfl, if_neg c2, hw, if_pos rfl, if_neg c3]
          have eL : F.mvL l k b n = l.set k.toNat (F.inBay (l.getD k.toNat F.st0) b) := by unfold F.mvL; rw [if_pos eE]
          rw [eE, eL]
          exact ite_no c3 ⟨⟨hn, h0⟩, by omega, rfl, rfl⟩
      · refine ite_yes (show ¬ 10 * (l.getD k.toNat F.st0).2.2.2.2 + b = 1 by omega) (ite_yes (show ¬ 10 * (l.getD k.toNat F.st0).2.2.2.2 + b = 12 by omega) (ite_yes (show ¬ 10 * (l.getD k.toNat F.st0).2.2.2.2 + b = 13 by omega) (ite_yes (show ¬ 10 * (l.getD k.toNat F.st0).2.2.2.2 + b = 21 by omega) (ite_no (fun q => q w) ?_))))
        by_cases c3 : n = 16
        · exact ite_yes c3 (bad 9 (by decide) (by unfold F.mvE; rw [c1, if_pos rfl, if_neg c2, hw, if_pos rfl, if_pos c3]))
        · have eE : F.mvE l k b n = 0 := by unfold F.mvE; rw [c1, if_pos rfl, if_neg c2, hw, if_pos rfl, if_neg c3]
          have eL : F.mvL l k b n = l.set k.toNat (F.inBay (l.getD k.toNat F.st0) b) := by unfold F.mvL; rw [if_pos eE]
          rw [eE, eL]
          exact ite_no c3 ⟨⟨hn, h0⟩, by omega, rfl, rfl⟩



noncomputable def s_smvd : Summ cod := fun args H => match args, H with
  | [.c (.own 0 q), .c (.int .i64 k), .c (.int .i64 b), .c (.int .i64 n)], [o0] => (match o0.asOwn 1 26 with | some l => .need ((.c (.own 0 q) : SV) = .c (.own 0 (List.length l))) (.need ((k < l.length) ∧ (F.byO l)) (.ret (.c (.int .i64 (F.mvE l k b n)), [.own 1 (F.mvL l k b n) 26]))) | none => .fail)
  | _, _ => .fail


theorem smvd_sound : SoundI Try.prog cod 14 s_smvd := tree_soundI (cfg := C_snew) Try.func14 rfl rfl _ fun args H r H' hg b0 hb => by
  unfold s_smvd at hg
  split at hg
  · skip
    split at hg
    · rename_i l hx0
      cases asOwn_spec hx0
      obtain ⟨tt, hg⟩ := hg
      have t0 := tt
      cases t0
      obtain ⟨hq, hg⟩ := hg
      obtain ⟨q0, q1⟩ := hq
      cases hg
      exact smvd_run _ _ _ _ b0 hb (by assumption) (by assumption)
    · exact hg.elim
  · exact hg.elim

noncomputable def L_smvd : Sums cod := (14, .i s_smvd) :: L_snew
noncomputable def C_smvd : Cfg cod := mkC L_smvd

theorem L_smvd_ok : Snd Try.prog cod L_smvd := .consI smvd_sound L_snew_ok



def cuts_ssrt : Cuts := [(3, [5, 1, 9, 10, 11], 3), (7, [1, 9, 10, 11, 7, 5, 8], 4)]

theorem ssrt_t0 (l : List (List UInt8 × List UInt8 × Int × Int × Int)) (l_t : Bool) (b : Int) : symF C_smvd cuts_ssrt Try.f21.results.toList 1 400 [.code (codeOf Try.f21)] ⟨argsS Try.f21 [.c (.slc 0 0 (List.length l) l_t), .c (.int .i64 b)], ([.inp 1 l] : Heap cod)⟩ =
.ret (.cut (cutAt Try.f21 3) ⟨tmG 50 [(1, .c (.int .i64 b)), (3, .c (.own 2 0)), (3, .c (.slc 0 0 (List.length l) l_t)), (0, .c (.int .i64 (Int.ofNat (List.length l)))), (0, .c (.int .i64 0))], [.inp 1 l, .own 1 [] 26, .own 1 [] 26]⟩) := by kernel_rfl


noncomputable def st_ssrt_3 (l : List (List UInt8 × List UInt8 × Int × Int × Int)) (l_t : Bool) (b : Int) (j : Int) (ts : List (List UInt8 × List UInt8 × Int × Int × Int)) (q : Nat) : St cod := ⟨tmG 50 [(1, .c (.int .i64 b)), (3, .c (.own 2 q)), (3, .c (.slc 0 0 (List.length l) l_t)), (0, .c (.int .i64 (Int.ofNat (List.length l)))), (0, .c (.int .i64 j))], ([.inp 1 l, .own 1 [] 26, .own 1 ts 26] : Heap cod)⟩


theorem ssrt_t3 (l : List (List UInt8 × List UInt8 × Int × Int × Int)) (l_t : Bool) (b : Int) (j : Int) (ts : List (List UInt8 × List UInt8 × Int × Int × Int)) (q : Nat) : symF C_smvd cuts_ssrt Try.f21.results.toList 1 400 (cutAt Try.f21 3) (st_ssrt_3 l l_t b j ts q) =
 cond (decide (j < Int.ofNat (List.length l))) (
 .need (((0 : Int) ≤ j ∧ j < Int.ofNat (List.length l))) (
 .need (0 + Int.toNat j < List.length l) (
 cond (!decide ((List.getD l (0 + Int.toNat j) (cod 1).d).2.2.2.2 = b)) (
  .need (i64ok (j + 1)) (
  .ret (.cut (cutAt Try.f21 3) ⟨tmG 50 [(1, .c (.int .i64 b)), (3, .c (.own 2 (q))), (3, .c (.slc 0 0 (List.length l) l_t)), (0, .c (.int .i64 (Int.ofNat (List.length l)))), (0, .c (.int .i64 (j + 1)))], [.inp 1 l, .own 1 [] 26, .own 1 ts 26]⟩))) (
  .ret (.cut (cutAt Try.f21 7) ⟨tmG 50 [(1, .c (.int .i64 b)), (3, .c (.own 2 (q))), (1, .c (.ptr 3 0 0)), (0, .c (.int .i64 0)), (0, .c (.slc 0 0 (List.length l) l_t)), (0, .c (.int .i64 (Int.ofNat (List.length l)))), (0, .c (.int .i64 j))], [.inp 1 l, .own 1 [] 26, .own 1 ts 26, .blk [.str ((List.getD l (0 + Int.toNat j) (cod 1).d).1), .str ((List.getD l (0 + Int.toNat j) (cod 1).d).2.1), .int .i64 ((List.getD l (0 + Int.toNat j) (cod 1).d).2.2.1), .int .i64 ((List.getD l (0 + Int.toNat j) (cod 1).d).2.2.2.1), .int .i64 ((List.getD l (0 + Int.toNat j) (cod 1).d).2.2.2.2)] 26]⟩))))) (
 .ret (.fin (.c (.own 1 (q))) [.own 1 ts 26])) := by kernel_rfl


noncomputable def st_ssrt_7 (l : List (List UInt8 × List UInt8 × Int × Int × Int)) (l_t : Bool) (b : Int) (j : Int) (ts : List (List UInt8 × List UInt8 × Int × Int × Int)) (q : Nat) (a : Int) (p1 p2 : List UInt8) (p3 p4 p5 : Int) : St cod := ⟨tmG 50 [(1, .c (.int .i64 b)), (3, .c (.own 2 q)), (1, .c (.ptr 3 0 0)), (0, .c (.int .i64 a)), (0, .c (.slc 0 0 (List.length l) l_t)), (0, .c (.int .i64 (Int.ofNat (List.length l)))), (0, .c (.int .i64 j))], ([.inp 1 l, .own 1 [] 26, .own 1 ts 26, .blk [.str p1, .str p2, .int .i64 p3, .int .i64 p4, .int .i64 p5] 26] : Heap cod)⟩


theorem ssrt_t7 (l : List (List UInt8 × List UInt8 × Int × Int × Int)) (l_t : Bool) (b : Int) (j : Int) (ts : List (List UInt8 × List UInt8 × Int × Int × Int)) (q : Nat) (a : Int) (p1 p2 : List UInt8) (p3 p4 p5 : Int) : symF C_smvd cuts_ssrt Try.f21.results.toList 1 400 (cutAt Try.f21 7) (st_ssrt_7 l l_t b j ts q a p1 p2 p3 p4 p5) =
 cond (decide (a < Int.ofNat q)) (
 .need (((0 : Int) ≤ a ∧ a < Int.ofNat q)) (
 .need (0 + Int.toNat a < List.length ts) (
 cond (decide ((List.getD ts (0 + Int.toNat a) (cod 1).d).2.2.1 < p3)) (
  .need (i64ok (a + 1)) (
  .ret (.cut (cutAt Try.f21 7) ⟨tmG 50 [(1, .c (.int .i64 b)), (3, .c (.own 2 (q))), (1, .c (.ptr 3 0 0)), (0, .c (.int .i64 (a + 1))), (0, .c (.slc 0 0 (List.length l) l_t)), (0, .c (.int .i64 (Int.ofNat (List.length l)))), (0, .c (.int .i64 j))], [.inp 1 l, .own 1 [] 26, .own 1 ts 26, .blk [.str p1, .str p2, .int .i64 p3, .int .i64 p4, .int .i64 p5] 26]⟩))) (
  .need (((0 : Int) ≤ a ∧ a < Int.ofNat q)) (
  .need (0 + Int.toNat a < List.length ts) (
  cond (decide ((List.getD ts (0 + Int.toNat a) (cod 1).d).2.2.1 = p3)) (
   .need (((0 : Int) ≤ a ∧ a < Int.ofNat q)) (
   .need (0 + Int.toNat a < List.length ts) (
   cond (Op.bytesLess (List.getD ts (0 + Int.toNat a) (cod 1).d).1 p1) (
    .need (i64ok (a + 1)) (
    .ret (.cut (cutAt Try.f21 7) ⟨tmG 50 [(1, .c (.int .i64 b)), (3, .c (.own 2 (q))), (1, .c (.ptr 3 0 0)), (0, .c (.int .i64 (a + 1))), (0, .c (.slc 0 0 (List.length l) l_t)), (0, .c (.int .i64 (Int.ofNat (List.length l)))), (0, .c (.int .i64 j))], [.inp 1 l, .own 1 [] 26, .own 1 ts 26, .blk [.str p1, .str p2, .int .i64 p3, .int .i64 p4, .int .i64 p5] 26]⟩))) (
    .need (((0 : Int) ≤ a ∧ (a ≤ Int.ofNat (List.length ts) ∧ (List.length ts + 1 ≤ 1000000 ∧ 1 = 1)))) (
    .need (i64ok (j + 1)) (
    .ret (.cut (cutAt Try.f21 3) ⟨tmG 50 [(1, .c (.int .i64 b)), (3, .c (.own 2 (List.length ts + 1))), (3, .c (.slc 0 0 (List.length l) l_t)), (0, .c (.int .i64 (Int.ofNat (List.length l)))), (0, .c (.int .i64 (j + 1)))], [.inp 1 l, .own 1 [] 26, .own 1 (((List.take (Int.toNat a) ts) ++ ([(p1, p2, p3, p4, p5)])) ++ (List.drop (Int.toNat a) ts)) 26]⟩))))))) (
   .need (((0 : Int) ≤ a ∧ (a ≤ Int.ofNat (List.length ts) ∧ (List.length ts + 1 ≤ 1000000 ∧ 1 = 1)))) (
   .need (i64ok (j + 1)) (
   .ret (.cut (cutAt Try.f21 3) ⟨tmG 50 [(1, .c (.int .i64 b)), (3, .c (.own 2 (List.length ts + 1))), (3, .c (.slc 0 0 (List.length l) l_t)), (0, .c (.int .i64 (Int.ofNat (List.length l)))), (0, .c (.int .i64 (j + 1)))], [.inp 1 l, .own 1 [] 26, .own 1 (((List.take (Int.toNat a) ts) ++ ([(p1, p2, p3, p4, p5)])) ++ (List.drop (Int.toNat a) ts)) 26]⟩)))))))))) (
 .need (((0 : Int) ≤ a ∧ (a ≤ Int.ofNat (List.length ts) ∧ (List.length ts + 1 ≤ 1000000 ∧ 1 = 1)))) (
 .need (i64ok (j + 1)) (
 .ret (.cut (cutAt Try.f21 3) ⟨tmG 50 [(1, .c (.int .i64 b)), (3, .c (.own 2 (List.length ts + 1))), (3, .c (.slc 0 0 (List.length l) l_t)), (0, .c (.int .i64 (Int.ofNat (List.length l)))), (0, .c (.int .i64 (j + 1)))], [.inp 1 l, .own 1 [] 26, .own 1 (((List.take (Int.toNat a) ts) ++ ([(p1, p2, p3, p4, p5)])) ++ (List.drop (Int.toNat a) ts)) 26]⟩)))) := by kernel_rfl



theorem ssrt_run (l : List (List UInt8 × List UInt8 × Int × Int × Int)) (l_t : Bool) (b : Int) (b0 : Base) (hb : b0.n = 1) (h0 : l.length ≤ 100000) : Sym.Runs Try.prog b0 [.code (codeOf Try.f21)] ⟨argsS Try.f21 [.c (.slc 0 0 (List.length l) l_t), .c (.int .i64 b)], ([.inp 1 l] : Heap cod)⟩ (Sym.Ends Try.prog Try.f21 1 (.c (.own 1 (List.length (F.srt [] b l)))) [.own 1 (F.srt [] b l) 26]) := by
  have inner : ∀ (j : Int) (ts : List F.St) (s : F.St) (hj : 0 ≤ j ∧ j < 100001) (hl : ts.length ≤ 100001)
      (nx : Sym.Runs Try.prog b0 (cutAt Try.f21 3) (st_ssrt_3 l l_t b (j + 1) (F.insB s ts) (ts.length + 1)) (Sym.Ends Try.prog Try.f21 1 (.c (.own 1 (List.length (F.srt [] b l)))) [.own 1 (F.srt [] b l) 26])), ∀ (n a : Nat), a + n = ts.length → F.insB s ts = ts.take a ++ F.insB s (ts.drop a) →
      Sym.Runs Try.prog b0 (cutAt Try.f21 7) (st_ssrt_7 l l_t b j ts ts.length (a : Int) s.1 s.2.1 s.2.2.1 s.2.2.2.1 s.2.2.2.2) (Sym.Ends Try.prog Try.f21 1 (.c (.own 1 (List.length (F.srt [] b l)))) [.own 1 (F.srt [] b l) 26]) := by
    intro j ts s hj hl nx n
    induction n with
    | zero =>
      intro a ha hi
      refine Runs.go (cfg := C_smvd) L_smvd_ok mixed cuts_ssrt 400 hb (ssrt_t7 l l_t b j ts ts.length _ _ _ _ _ _) ?_
      have ha' : a = ts.length := by omega
      rw [List.drop_of_length_le (by omega)] at hi
      have e : F.insB s ts = List.take a ts ++ [(s.1, s.2.1, s.2.2.1, s.2.2.2.1, s.2.2.2.2)] ++ List.drop a ts := by
        rw [hi, List.drop_of_length_le (by omega), List.append_nil]
        rfl
      rw [e] at nx
      simp only [T.wp, T.wp_cond, Aft, Int.ofNat_eq_natCast, decide_eq_true_eq, and_true, true_and, Nat.zero_add, Bool.not_eq_true', decide_eq_false_iff_not, Int.toNat_natCast]
      exact ite_no (by omega) ⟨⟨by omega, by omega, by omega⟩, by unfold i64ok; omega, nx⟩
    | succ n ih =>
      intro a ha hi
      refine Runs.go (cfg := C_smvd) L_smvd_ok mixed cuts_ssrt 400 hb (ssrt_t7 l l_t b j ts ts.length _ _ _ _ _ _) ?_
      have hlt : a < ts.length := by omega
      have hlt' : (a : Int) < (ts.length : Int) := by omega
      have ed : ts.drop a = ts.getD a F.st0 :: ts.drop (a + 1) := by
        rw [List.drop_eq_getElem_cons hlt, List.getD_eq_getElem?_getD, List.getElem?_eq_getElem hlt]
        rfl
      have et : ts.take (a + 1) = ts.take a ++ [ts.getD a F.st0] := by
        rw [List.take_succ_eq_append_getElem hlt, List.getD_eq_getElem?_getD, List.getElem?_eq_getElem hlt]
        rfl
      have nx2 := ih (a + 1) (by omega)
      have d0 : (cod 1).d = F.st0 := rfl
      have stop : ¬ F.ltB (ts.getD a F.st0) s = true → F.insB s ts = List.take a ts ++ [(s.1, s.2.1, s.2.2.1, s.2.2.2.1, s.2.2.2.2)] ++ List.drop a ts := by
        intro h
        rw [hi, ed, F.insB, if_neg h, List.append_assoc]
        rfl
      have go : F.ltB (ts.getD a F.st0) s = true → F.insB s ts = ts.take (a + 1) ++ F.insB s (ts.drop (a + 1)) := by
        intro h
        rw [hi, ed, F.insB, if_pos h, et, List.append_assoc]
        rfl
      simp only [T.wp, T.wp_cond, Aft, Int.ofNat_eq_natCast, decide_eq_true_eq, and_true, true_and, Nat.zero_add, Bool.not_eq_true', decide_eq_false_iff_not, Nat.zero_add, Int.toNat_natCast, d0]
      generalize ts.getD a F.st0 = y at *
      refine ite_yes hlt' ⟨⟨by omega, hlt'⟩, hlt, ?_⟩
      by_cases k1 : y.2.2.1 < s.2.2.1
      · exact ite_yes k1 ⟨by unfold i64ok; omega, nx2 (go (ltB_iff.2 (.inl k1)))⟩
      refine ite_no k1 ⟨⟨by omega, hlt'⟩, hlt, ?_⟩
      by_cases k2 : y.2.2.1 = s.2.2.1
      · refine ite_yes k2 ⟨⟨by omega, hlt'⟩, hlt, ?_⟩
        by_cases k3 : F.lt y.1 s.1 = true
        · exact ite_yes k3 ⟨by unfold i64ok; omega, nx2 (go (ltB_iff.2 (.inr ⟨k2, k3⟩)))⟩
        · have e := stop (fun q => (ltB_iff.1 q).elim k1 (fun q => k3 q.2))
          rw [e] at nx
          exact ite_no k3 ⟨⟨by omega, by omega, by omega⟩, by unfold i64ok; omega, nx⟩
      · have e := stop (fun q => (ltB_iff.1 q).elim k1 (fun q => k2 q.1))
        rw [e] at nx
        exact ite_no k2 ⟨⟨by omega, by omega, by omega⟩, by unfold i64ok; omega, nx⟩
  have key : ∀ (m : Nat) (j : Int) (ts : List F.St), 0 ≤ j → j + m = l.length → F.srt ts b (l.drop j.toNat) = F.srt [] b l → (ts.length : Int) ≤ j →
      Sym.Runs Try.prog b0 (cutAt Try.f21 3) (st_ssrt_3 l l_t b j ts ts.length) (Sym.Ends Try.prog Try.f21 1 (.c (.own 1 (List.length (F.srt [] b l)))) [.own 1 (F.srt [] b l) 26]) := by
    intro m
    induction m with
    | zero =>
      intro j ts hj hm hs hl
      refine Runs.go (cfg := C_smvd) L_smvd_ok mixed cuts_ssrt 400 hb (ssrt_t3 l l_t b j ts ts.length) ?_
      have h1' : ¬ j < (l.length : Int) := by omega
      rw [drop_end l h1'] at hs
      have e : ts = F.srt [] b l := hs
      simp only [T.wp, T.wp_cond, Aft, Int.ofNat_eq_natCast, decide_eq_true_eq, and_true, true_and, Nat.zero_add, Bool.not_eq_true', decide_eq_false_iff_not]
      refine ite_no h1' ?_
      rw [← e]
      exact ⟨rfl, rfl⟩
    | succ m ih =>
      intro j ts hj hm hs hl
      refine Runs.go (cfg := C_smvd) L_smvd_ok mixed cuts_ssrt 400 hb (ssrt_t3 l l_t b j ts ts.length) ?_
      have h1' : j < (l.length : Int) := by omega
      have d0 : (cod 1).d = F.st0 := rfl
      rw [drop_at l F.st0 hj h1', F.srt] at hs
      simp only [T.wp, T.wp_cond, Aft, Int.ofNat_eq_natCast, decide_eq_true_eq, and_true, true_and, Nat.zero_add, Bool.not_eq_true', decide_eq_false_iff_not, Nat.zero_add, d0]
      generalize l.getD j.toNat F.st0 = p at *
      refine ite_yes h1' ⟨⟨hj, h1'⟩, by omega, ?_⟩
      by_cases e : p.2.2.2.2 = b
      · have e' : F.inB b p = true := decide_eq_true e
        rw [if_pos e'] at hs
        have n2 := ih (j + 1) (F.insB p ts) (by omega) (by omega) hs (by rw [(insB_perm p ts).length_eq, List.length_cons]; omega)
        rw [(insB_perm p ts).length_eq, List.length_cons] at n2
        exact ite_no (fun q => q e) (inner j ts p ⟨hj, by omega⟩ (by omega) n2 ts.length 0 (by omega) rfl)
      · have e' : ¬ F.inB b p = true := by unfold F.inB; simp [e]
        rw [if_neg e'] at hs
        exact ite_yes e ⟨by unfold i64ok; omega, ih (j + 1) ts (by omega) (by omega) hs (by omega)⟩
  refine Runs.go (cfg := C_smvd) L_smvd_ok mixed cuts_ssrt 400 hb (ssrt_t0 l l_t b) ?_
  simp only [T.wp, T.wp_cond, Aft, Int.ofNat_eq_natCast, decide_eq_true_eq, and_true, true_and, Nat.zero_add, Bool.not_eq_true', decide_eq_false_iff_not]
  exact key l.length 0 [] (by omega) (by omega) rfl (by simp)



noncomputable def s_ssrt : Summ cod := fun args H => match args, H with
  | [.c (.slc 0 l_i l_n l_t), .c (.int .i64 b)], [o0] => (match o0.asInp 1 with | some l => .need ((l_i = 0 ∧ l_n = List.length l) ∧ (l.length ≤ 100000)) (.ret (.c (.own 1 (List.length (F.srt [] b l))), [.own 1 (F.srt [] b l) 26])) | none => .fail)
  | _, _ => .fail


theorem ssrt_sound : Sound Try.prog cod 21 s_ssrt := sound_runs (cfg := C_smvd) L_smvd_ok mixed Try.func21 rfl rfl _ fun args H r news hg b0 hb => by
  unfold s_ssrt at hg
  split at hg
  · skip
    split at hg
    · rename_i l hx0
      cases asInp_spec hx0
      simp only [T.gives, T.wp, Prod.mk.injEq] at hg
      obtain ⟨⟨⟨rfl, rfl⟩, q1⟩, rfl, rfl⟩ := hg
      exact ssrt_run _ _ _ b0 hb (by assumption)
    · exact hg.elim
  · exact hg.elim

noncomputable def L_ssrt : Sums cod := (21, .p s_ssrt) :: L_smvd
noncomputable def C_ssrt : Cfg cod := mkC L_ssrt

theorem L_ssrt_ok : Snd Try.prog cod L_ssrt := .cons ssrt_sound L_smvd_ok



def cuts_seql : Cuts := [(4, [1, 0, 12, 13], 2)]

theorem seql_t0 (a : List (List UInt8 × List UInt8 × Int × Int × Int)) (a_t : Bool) (b : List (List UInt8 × List UInt8 × Int × Int × Int)) (b_t : Bool) : symF C_ssrt cuts_seql Try.f19.results.toList 2 400 [.code (codeOf Try.f19)] ⟨argsS Try.f19 [.c (.slc 0 0 (List.length a) a_t), .c (.slc 1 0 (List.length b) b_t)], ([.inp 1 a, .inp 1 b] : Heap cod)⟩ =
 cond (!decide (Int.ofNat (List.length a) = Int.ofNat (List.length b))) (
 .ret (.fin (.c (.bool false)) [])) (
 .ret (.cut (cutAt Try.f19 4) ⟨tmG 12 [(0, .c (.slc 0 0 (List.length a) a_t)), (0, .c (.slc 1 0 (List.length b) b_t)), (10, .c (.int .i64 (Int.ofNat (List.length a)))), (0, .c (.int .i64 0))], [.inp 1 a, .inp 1 b]⟩)) := by kernel_rfl


noncomputable def st_seql_4 (a : List (List UInt8 × List UInt8 × Int × Int × Int)) (a_t : Bool) (b : List (List UInt8 × List UInt8 × Int × Int × Int)) (b_t : Bool) (i : Int) : St cod := ⟨tmG 12 [(0, .c (.slc 0 0 (List.length a) a_t)), (0, .c (.slc 1 0 (List.length b) b_t)), (10, .c (.int .i64 (Int.ofNat (List.length a)))), (0, .c (.int .i64 i))], [.inp 1 a, .inp 1 b]⟩


theorem seql_t4 (a : List (List UInt8 × List UInt8 × Int × Int × Int)) (a_t : Bool) (b : List (List UInt8 × List UInt8 × Int × Int × Int)) (b_t : Bool) (i : Int) : symF C_ssrt cuts_seql Try.f19.results.toList 2 400 (cutAt Try.f19 4) (st_seql_4 a a_t b b_t i) =
 cond (decide (i < Int.ofNat (List.length a))) (
 .need (((0 : Int) ≤ i ∧ i < Int.ofNat (List.length a))) (
 .need (0 + Int.toNat i < List.length a) (
 .need (((0 : Int) ≤ i ∧ i < Int.ofNat (List.length b))) (
 .need (0 + Int.toNat i < List.length b) (
 cond (!(decide ((List.getD a (0 + Int.toNat i) (cod 1).d).1 = (List.getD b (0 + Int.toNat i) (cod 1).d).1) &&     (decide ((List.getD a (0 + Int.toNat i) (cod 1).d).2.1 = (List.getD b (0 + Int.toNat i) (cod 1).d).2.1) &&       (decide ((List.getD a (0 + Int.toNat i) (cod 1).d).2.2.1 = (List.getD b (0 + Int.toNat i) (cod 1).d).2.2.1) &&         (decide             ((List.getD a (0 + Int.toNat i) (cod 1).d).2.2.2.1 = (List.getD b (0 + Int.toNat i) (cod 1).d).2.2.2.1) &&           decide             ((List.getD a (0 + Int.toNat i) (cod 1).d).2.2.2.2 = (List.getD b (0 + Int.toNat i) (cod 1).d).2.2.2.2)))))) (
  .ret (.fin (.c (.bool false)) [])) (
  .need (i64ok (i + 1)) (
  .ret (.cut (cutAt Try.f19 4) ⟨tmG 12 [(0, .c (.slc 0 0 (List.length a) a_t)), (0, .c (.slc 1 0 (List.length b) b_t)), (10, .c (.int .i64 (Int.ofNat (List.length a)))), (0, .c (.int .i64 (i + 1)))], [.inp 1 a, .inp 1 b]⟩)))))))) (
 .ret (.fin (.c (.bool true)) [])) := by kernel_rfl



theorem seql_run (a : List (List UInt8 × List UInt8 × Int × Int × Int)) (a_t : Bool) (b : List (List UInt8 × List UInt8 × Int × Int × Int)) (b_t : Bool) (b0 : Base) (hb : b0.n = 2) (h0 : a = b) (h1 : a.length ≤ 100000) : Sym.Runs Try.prog b0 [.code (codeOf Try.f19)] ⟨argsS Try.f19 [.c (.slc 0 0 (List.length a) a_t), .c (.slc 1 0 (List.length b) b_t)], ([.inp 1 a, .inp 1 b] : Heap cod)⟩ (Sym.Ends Try.prog Try.f19 2 (.c (.bool true)) []) := by
  subst h0
  have key : ∀ (m k : Nat), k + m = a.length →
      Sym.Runs Try.prog b0 (cutAt Try.f19 4) (st_seql_4 a a_t a b_t (k : Int)) (Sym.Ends Try.prog Try.f19 2 (.c (.bool true)) []) := by
    intro m
    induction m with
    | zero =>
      intro k hk
      refine Runs.go (cfg := C_ssrt) L_ssrt_ok mixed cuts_seql 400 hb (seql_t4 a a_t a b_t (k : Int)) ?_
      simp only [T.wp, T.wp_cond, Aft, Int.ofNat_eq_natCast, decide_eq_true_eq, and_true, true_and, Nat.zero_add, Bool.not_eq_true', decide_eq_false_iff_not]
      exact ite_no (by omega) trivial
    | succ m ih =>
      intro k hk
      refine Runs.go (cfg := C_ssrt) L_ssrt_ok mixed cuts_seql 400 hb (seql_t4 a a_t a b_t (k : Int)) ?_
      have nx := ih (k + 1) (by omega)
      have hk1 : (k : Int) < (a.length : Int) := by omega
      simp only [T.wp, T.wp_cond, Aft, Int.ofNat_eq_natCast, decide_eq_true_eq, and_true, true_and, Nat.zero_add, Bool.not_eq_true', decide_eq_false_iff_not, decide_true, Bool.and_true, Bool.not_true, Bool.false_eq_true, if_false]
      exact ite_yes hk1 ⟨⟨by omega, hk1⟩, by omega, ⟨by omega, hk1⟩, by omega, by unfold Sym.i64ok; omega, nx⟩
  refine Runs.go (cfg := C_ssrt) L_ssrt_ok mixed cuts_seql 400 hb (seql_t0 a a_t a b_t) ?_
  simp only [T.wp, T.wp_cond, Aft, Int.ofNat_eq_natCast, decide_eq_true_eq, and_true, true_and, Nat.zero_add, Bool.not_eq_true', decide_eq_false_iff_not]
  exact ite_no (fun q => q trivial) (key a.length 0 (by omega))



noncomputable def s_seql : Summ cod := fun args H => match args, H with
  | [.c (.slc 0 a_i a_n a_t), .c (.slc 1 b_i b_n b_t)], [o0, o1] => (match o0.asInp 1 with | some a => (match o1.asInp 1 with | some b => .need ((a_i = 0 ∧ a_n = List.length a) ∧ (b_i = 0 ∧ b_n = List.length b) ∧ (a = b) ∧ (a.length ≤ 100000)) (.ret (.c (.bool true), [])) | none => .fail) | none => .fail)
  | _, _ => .fail


theorem seql_sound : Sound Try.prog cod 19 s_seql := sound_runs (cfg := C_ssrt) L_ssrt_ok mixed Try.func19 rfl rfl _ fun args H r news hg b0 hb => by
  unfold s_seql at hg
  split at hg
  · skip
    split at hg
    · rename_i a hx0
      cases asInp_spec hx0
      split at hg
      · rename_i b hx1
        cases asInp_spec hx1
        simp only [T.gives, T.wp, Prod.mk.injEq] at hg
        obtain ⟨⟨⟨rfl, rfl⟩, ⟨rfl, rfl⟩, q2, q3⟩, rfl, rfl⟩ := hg
        exact seql_run _ _ _ _ b0 hb (by assumption) (by assumption)
      · exact hg.elim
    · exact hg.elim
  · exact hg.elim

noncomputable def L_seql : Sums cod := (19, .p s_seql) :: L_ssrt
noncomputable def C_seql : Cfg cod := mkC L_seql

theorem L_seql_ok : Snd Try.prog cod L_seql := .cons seql_sound L_ssrt_ok



def cuts_lwc : Cuts := []

theorem lwc_t0 (a1 : List UInt8) (a2 : List UInt8) (a3 a4 a5 : Int) (c : List UInt8) (c2 : List UInt8) (c3 c4 c5 : Int) : symF C_seql cuts_lwc Try.f8.results.toList 1 400 [.code (codeOf Try.f8)] ⟨argsS Try.f8 [.agg [.str a1, .str a2, .int .i64 a3, .int .i64 a4, .int .i64 a5], .c (.ptr 0 0 0)], ([.rblk [.str c, .str c2, .int .i64 c3, .int .i64 c4, .int .i64 c5]] : Heap cod)⟩ =
.ret (.fin (.c (.bool (decide (a1 = c)))) []) := by kernel_rfl



theorem lwc_run (a1 : List UInt8) (a2 : List UInt8) (a3 a4 a5 : Int) (c : List UInt8) (c2 : List UInt8) (c3 c4 c5 : Int) (b0 : Base) (hb : b0.n = 1)  : Sym.Runs Try.prog b0 [.code (codeOf Try.f8)] ⟨argsS Try.f8 [.agg [.str a1, .str a2, .int .i64 a3, .int .i64 a4, .int .i64 a5], .c (.ptr 0 0 0)], ([.rblk [.str c, .str c2, .int .i64 c3, .int .i64 c4, .int .i64 c5]] : Heap cod)⟩ (Sym.Ends Try.prog Try.f8 1 (.c (.bool (decide (a1 = c)))) []) := by
  refine Runs.go (cfg := C_seql) L_seql_ok mixed cuts_lwc 400 hb (lwc_t0 a1 a2 a3 a4 a5 c c2 c3 c4 c5) ?_
  simp only [T.wp, T.wp_cond, Aft, Int.ofNat_eq_natCast, decide_eq_true_eq, and_true, true_and, Nat.zero_add, Bool.not_eq_true', decide_eq_false_iff_not]



noncomputable def s_lwc : Summ cod := fun args H => match args, H with
  | [.agg [.str a1, .str a2, .int .i64 a3, .int .i64 a4, .int .i64 a5], .c (.ptr 0 0 0)], [.rblk [.str c, .str c2, .int .i64 c3, .int .i64 c4, .int .i64 c5]] => .ret (.c (.bool (decide (a1 = c))), [])
  | _, _ => .fail


theorem lwc_sound : Sound Try.prog cod 8 s_lwc := sound_runs (cfg := C_seql) L_seql_ok mixed Try.func8 rfl rfl _ fun args H r news hg b0 hb => by
  unfold s_lwc at hg
  split at hg
  · skip
    cases hg
    exact lwc_run _ _ _ _ _ _ _ _ _ _ b0 hb 
  · exact hg.elim

noncomputable def L_lwc : Sums cod := (8, .p s_lwc) :: L_seql
noncomputable def C_lwc : Cfg cod := mkC L_lwc

theorem L_lwc_ok : Snd Try.prog cod L_lwc := .cons lwc_sound L_seql_ok



def cuts_ixB : Cuts := [(2, [0, 1, 7, 8], 2)]

theorem ixB_t0 (l : List (List UInt8 × List UInt8 × Int × Int × Int)) (l_t : Bool) (c : List UInt8) (c2 : List UInt8) (c3 c4 c5 : Int) : symF C_lwc cuts_ixB Try.f7.results.toList 2 400 [.code (codeOf Try.f7)] ⟨argsS Try.f7 [.c (.slc 0 0 (List.length l) l_t), .c (.fn 8 [(1, 0, 0)])], ([.inp 1 l, .rblk [.str c, .str c2, .int .i64 c3, .int .i64 c4, .int .i64 c5]] : Heap cod)⟩ =
.ret (.cut (cutAt Try.f7 2) ⟨tmG 10 [(0, .c (.slc 0 0 (List.length l) l_t)), (0, .c (.fn 8 [(1, 0, 0)])), (5, .c (.int .i64 (Int.ofNat (List.length l)))), (0, .c (.int .i64 0))], [.inp 1 l, .rblk [.str c, .str c2, .int .i64 c3, .int .i64 c4, .int .i64 c5]]⟩) := by kernel_rfl


noncomputable def st_ixB_2 (l : List (List UInt8 × List UInt8 × Int × Int × Int)) (l_t : Bool) (c : List UInt8) (c2 : List UInt8) (c3 c4 c5 : Int) (i : Int) : St cod := ⟨tmG 10 [(0, .c (.slc 0 0 (List.length l) l_t)), (0, .c (.fn 8 [(1, 0, 0)])), (5, .c (.int .i64 (Int.ofNat (List.length l)))), (0, .c (.int .i64 i))], [.inp 1 l, .rblk [.str c, .str c2, .int .i64 c3, .int .i64 c4, .int .i64 c5]]⟩


theorem ixB_t2 (l : List (List UInt8 × List UInt8 × Int × Int × Int)) (l_t : Bool) (c : List UInt8) (c2 : List UInt8) (c3 c4 c5 : Int) (i : Int) : symF C_lwc cuts_ixB Try.f7.results.toList 2 400 (cutAt Try.f7 2) (st_ixB_2 l l_t c c2 c3 c4 c5 i) =
 cond (decide (i < Int.ofNat (List.length l))) (
 .need (((0 : Int) ≤ i ∧ i < Int.ofNat (List.length l))) (
 .need (0 + Int.toNat i < List.length l) (
 cond (decide ((List.getD l (0 + Int.toNat i) (cod 1).d).1 = c)) (
  .ret (.fin (.c (.int .i64 i)) [])) (
  .need (i64ok (i + 1)) (
  .ret (.cut (cutAt Try.f7 2) ⟨tmG 10 [(0, .c (.slc 0 0 (List.length l) l_t)), (0, .c (.fn 8 [(1, 0, 0)])), (5, .c (.int .i64 (Int.ofNat (List.length l)))), (0, .c (.int .i64 (i + 1)))], [.inp 1 l, .rblk [.str c, .str c2, .int .i64 c3, .int .i64 c4, .int .i64 c5]]⟩)))))) (
 .ret (.fin (.c (.int .i64 (-1))) [])) := by kernel_rfl



theorem ixB_run (l : List (List UInt8 × List UInt8 × Int × Int × Int)) (l_t : Bool) (c : List UInt8) (c2 : List UInt8) (c3 c4 c5 : Int) (b0 : Base) (hb : b0.n = 2) (h0 : List.length l ≤ 1000000) : Sym.Runs Try.prog b0 [.code (codeOf Try.f7)] ⟨argsS Try.f7 [.c (.slc 0 0 (List.length l) l_t), .c (.fn 8 [(1, 0, 0)])], ([.inp 1 l, .rblk [.str c, .str c2, .int .i64 c3, .int .i64 c4, .int .i64 c5]] : Heap cod)⟩ (Sym.Ends Try.prog Try.f7 2 (.c (.int .i64 (F.idx l c))) []) := by
  have key : ∀ (m : Nat) (i : Int), 0 ≤ i → i + m = l.length → F.idx l c = F.idxG c (l.drop i.toNat) i →
      Sym.Runs Try.prog b0 (cutAt Try.f7 2) (st_ixB_2 l l_t c c2 c3 c4 c5 i) (Sym.Ends Try.prog Try.f7 2 (.c (.int .i64 (F.idx l c))) []) := by
    intro m
    induction m with
    | zero =>
      intro i hi hm hR
      refine Runs.go (cfg := C_lwc) L_lwc_ok mixed cuts_ixB 400 hb (ixB_t2 l l_t c c2 c3 c4 c5 i) ?_
      have h1 : ¬ i < (l.length : Int) := by omega
      rw [drop_end l h1] at hR
      simp only [T.wp, T.wp_cond, Aft, Int.ofNat_eq_natCast, decide_eq_true_eq, and_true, true_and, Nat.zero_add, Bool.not_eq_true', decide_eq_false_iff_not]
      refine ite_no h1 ?_
      rw [hR]
      rfl
    | succ m ih =>
      intro i hi hm hR
      refine Runs.go (cfg := C_lwc) L_lwc_ok mixed cuts_ixB 400 hb (ixB_t2 l l_t c c2 c3 c4 c5 i) ?_
      have h1 : i < (l.length : Int) := by omega
      rw [drop_at l (cod 1).d hi h1] at hR
      have nx := ih (i + 1) (by omega) (by omega)
      simp only [T.wp, T.wp_cond, Aft, Int.ofNat_eq_natCast, decide_eq_true_eq, and_true, true_and, Nat.zero_add, Bool.not_eq_true', decide_eq_false_iff_not, Nat.zero_add]
      generalize l.getD i.toNat (cod 1).d = p at *
      refine ite_yes h1 ⟨⟨hi, h1⟩, by omega, ?_⟩
      by_cases e : p.1 = c
      · refine ite_yes e ?_
        rw [hR, F.idxG, if_pos e]
      · refine ite_no e ⟨by unfold Sym.i64ok; omega, nx ?_⟩
        rw [hR, F.idxG, if_neg e]
  refine Runs.go (cfg := C_lwc) L_lwc_ok mixed cuts_ixB 400 hb (ixB_t0 l l_t c c2 c3 c4 c5) ?_
  simp only [T.wp, T.wp_cond, Aft, Int.ofNat_eq_natCast, decide_eq_true_eq, and_true, true_and, Nat.zero_add, Bool.not_eq_true', decide_eq_false_iff_not]
  exact key l.length 0 (by omega) (by omega) rfl



noncomputable def s_ixB : Summ cod := fun args H => match args, H with
  | [.c (.slc 0 l_i l_n l_t), .c (.fn 8 [(1, 0, 0)])], [o0, .rblk [.str c, .str c2, .int .i64 c3, .int .i64 c4, .int .i64 c5]] => (match o0.asInp 1 with | some l => .need ((l_i = 0 ∧ l_n = List.length l) ∧ (List.length l ≤ 1000000)) (.ret (.c (.int .i64 (F.idx l c)), [])) | none => .fail)
  | _, _ => .fail


theorem ixB_sound : Sound Try.prog cod 7 s_ixB := sound_runs (cfg := C_lwc) L_lwc_ok mixed Try.func7 rfl rfl _ fun args H r news hg b0 hb => by
  unfold s_ixB at hg
  split at hg
  · skip
    split at hg
    · rename_i l hx0
      cases asInp_spec hx0
      simp only [T.gives, T.wp, Prod.mk.injEq] at hg
      obtain ⟨⟨⟨rfl, rfl⟩, q1⟩, rfl, rfl⟩ := hg
      exact ixB_run _ _ _ _ _ _ _ b0 hb (by assumption)
    · exact hg.elim
  · exact hg.elim

noncomputable def L_ixB : Sums cod := (7, .p s_ixB) :: L_lwc
noncomputable def C_ixB : Cfg cod := mkC L_ixB

theorem L_ixB_ok : Snd Try.prog cod L_ixB := .cons ixB_sound L_lwc_ok


end
end Go.Proofs.Ytkfkfihjdohjfaa
