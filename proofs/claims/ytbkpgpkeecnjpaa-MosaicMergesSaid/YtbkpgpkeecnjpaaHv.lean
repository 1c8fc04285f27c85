/- Part of a claim: lemmas on the way to its theorem; each states its own conditions. -/
import Derived.Test.YtbkpgpkeecnjpaaFr
import Derived.Test.YtbkpgpkeecnjpaaSym22
namespace Go.Proofs.Ytbkpgpkeecnjpaa
open Sym Go.RowKit
noncomputable section
set_option maxRecDepth 100000
set_option maxHeartbeats 4000000

namespace F
abbrev Sp := Int × Int × Int × Int × Int × Int
def sp0 : Sp := (0, 0, 0, 0, 0, 0)
def cmpI (a b : Int) : Int := if a < b then -1 else (if b < a then 1 else 0)
def orF : List Int → Int
  | [] => 0
  | x :: l => if x = 0 then orF l else x
def cmpS (a b : Sp) : Int := orF [cmpI a.1 b.1, cmpI a.2.2.2.2.2 b.2.2.2.2.2, cmpI a.2.1 b.2.1, cmpI a.2.2.1 b.2.2.1, cmpI a.2.2.2.1 b.2.2.2.1, cmpI a.2.2.2.2.1 b.2.2.2.2.1]
end F

noncomputable def s_isnan : Summ cod := fun args H => match H with
  | [] => match rd args with
    | some [[n]] => (.ret (.c (.bool false), []))
    | _ => .fail
  | _ => .fail

theorem isnan_tree (n : Int) : symF C_rsite [] Try.f90.results.toList (List.length ([] : Heap cod)) 400 [.code (codeOf Try.f90)] ⟨argsS Try.f90 [.c (.int .i64 n)], []⟩ =
.ret (.fin (.c (.bool (!decide (n = n)))) []) := by kernel_rfl

theorem isnan_sound : Sound Try.prog cod 90 s_isnan := sound_flat (cfg := C_rsite) L_rsite_ok mixed Try.func90 rfl rfl _ 400 fun args H r news hg => by
  unfold s_isnan at hg
  split at hg
  · split at hg
    · rename_i n hrd
      have hargs := rd_spec hrd
      simp only [List.map, wr1, ints, List.tail] at hargs
      subst hargs
      clear hrd
      rw [isnan_tree]
      simp only [T.gives, T.wp, Prod.mk.injEq] at hg
      obtain ⟨rfl, rfl⟩ := hg
      simp only [T.wp, T.wp_cond, Fin.fin.injEq, SV.c.injEq, SV.tup.injEq, SV.agg.injEq, List.cons.injEq, Cell.bool.injEq, Cell.int.injEq, and_true, true_and, decide_eq_true_eq]
      simp
    · exact hg.elim
  · exact hg.elim

noncomputable def L_isnan : Sums cod := (90, .p s_isnan) :: L_rsite
noncomputable def C_isnan : Cfg cod := mkC L_isnan

theorem L_isnan_ok : Snd Try.prog cod L_isnan := .cons isnan_sound L_rsite_ok

noncomputable def s_cmpI : Summ cod := fun args H => match H with
  | [] => match rd args with
    | some [[a], [b]] => (.ret (.c (.int .i64 (F.cmpI a b)), []))
    | _ => .fail
  | _ => .fail

theorem cmpI_tree (a b : Int) : symF C_isnan [] Try.f71.results.toList (List.length ([] : Heap cod)) 400 [.code (codeOf Try.f71)] ⟨argsS Try.f71 [.c (.int .i64 a), .c (.int .i64 b)], []⟩ =
 cond (decide (a < b)) (
 .ret (.fin (.c (.int .i64 (-1))) [])) (
 cond (decide (b < a)) (
  .ret (.fin (.c (.int .i64 1)) [])) (
  .ret (.fin (.c (.int .i64 0)) []))) := by kernel_rfl

theorem cmpI_sound : Sound Try.prog cod 71 s_cmpI := sound_flat (cfg := C_isnan) L_isnan_ok mixed Try.func71 rfl rfl _ 400 fun args H r news hg => by
  unfold s_cmpI at hg
  split at hg
  · split at hg
    · rename_i a b hrd
      have hargs := rd_spec hrd
      simp only [List.map, wr1, ints, List.tail] at hargs
      subst hargs
      clear hrd
      rw [cmpI_tree]
      simp only [T.gives, T.wp, Prod.mk.injEq] at hg
      obtain ⟨rfl, rfl⟩ := hg
      simp only [T.wp, T.wp_cond, Fin.fin.injEq, SV.c.injEq, SV.tup.injEq, SV.agg.injEq, List.cons.injEq, Cell.bool.injEq, Cell.int.injEq, and_true, true_and, decide_eq_true_eq]
      unfold F.cmpI
      by_cases h1 : a < b <;> by_cases h2 : b < a <;> simp [h1, h2]
    · exact hg.elim
  · exact hg.elim

noncomputable def L_cmpI : Sums cod := (71, .p s_cmpI) :: L_isnan
noncomputable def C_cmpI : Cfg cod := mkC L_cmpI

theorem L_cmpI_ok : Snd Try.prog cod L_cmpI := .cons cmpI_sound L_isnan_ok


def cuts_orI : Cuts := [(3, [3, 6, 7, 8], 1)]

theorem orI_t0 (l : List Int) (l_t : Bool) : symF C_cmpI cuts_orI Try.f70.results.toList 1 400 [.code (codeOf Try.f70)] ⟨argsS Try.f70 [.c (.slc 0 0 (List.length l) l_t)], ([.inp 0 l] : Heap cod)⟩ =
.ret (.cut (cutAt Try.f70 3) ⟨tmG 9 [(3, .c (.int .i64 0)), (2, .c (.slc 0 0 (List.length l) l_t)), (0, .c (.int .i64 (Int.ofNat (List.length l)))), (0, .c (.int .i64 0))], [.inp 0 l]⟩) := by kernel_rfl


noncomputable def st_orI_3 (l : List Int) (l_t : Bool) (k : Int) : St cod := ⟨tmG 9 [(3, .c (.int .i64 0)), (2, .c (.slc 0 0 (List.length l) l_t)), (0, .c (.int .i64 (Int.ofNat (List.length l)))), (0, .c (.int .i64 k))], [.inp 0 l]⟩


theorem orI_t3 (l : List Int) (l_t : Bool) (k : Int) : symF C_cmpI cuts_orI Try.f70.results.toList 1 400 (cutAt Try.f70 3) (st_orI_3 l l_t k) =
 cond (decide (k < Int.ofNat (List.length l))) (
 .need (((0 : Int) ≤ k ∧ k < Int.ofNat (List.length l))) (
 .need (0 + Int.toNat k < List.length l) (
 cond (!decide (List.getD l (0 + Int.toNat k) (cod 0).d = 0)) (
  .ret (.fin (.c (.int .i64 (List.getD l (0 + Int.toNat k) (cod 0).d))) [])) (
  .need (i64ok (k + 1)) (
  .ret (.cut (cutAt Try.f70 3) ⟨tmG 9 [(3, .c (.int .i64 0)), (2, .c (.slc 0 0 (List.length l) l_t)), (0, .c (.int .i64 (Int.ofNat (List.length l)))), (0, .c (.int .i64 (k + 1)))], [.inp 0 l]⟩)))))) (
 .ret (.fin (.c (.int .i64 0)) [])) := by kernel_rfl



theorem orI_loop (l : List Int) (l_t : Bool) (h0 : l.length ≤ 1000) (b0 : Base) (hb : b0.n = 1) (R : SV) : ∀ (m j : Nat), j + m = l.length → R = .c (.int .i64 (F.orF (l.drop j))) →
    Sym.Runs Try.prog b0 (cutAt Try.f70 3) (st_orI_3 l l_t (j : Int)) (Sym.Ends Try.prog Try.f70 1 R []) := by
  intro m
  induction m with
  | zero =>
    intro j hm hR
    refine Runs.go (cfg := C_cmpI) L_cmpI_ok mixed cuts_orI 400 hb (orI_t3 l l_t (j : Int)) ?_
    have k1 : ¬ (j : Int) < (l.length : Int) := by omega
    rw [List.drop_of_length_le (by omega)] at hR
    simp only [T.wp, T.wp_cond, Aft, Int.ofNat_eq_natCast, decide_eq_true_eq, and_true, true_and, Nat.zero_add, Bool.not_eq_true', decide_eq_false_iff_not, k1, if_false, hR]
    rfl
  | succ m ih =>
    intro j hm hR
    have k1 : (j : Int) < (l.length : Int) := by omega
    have k2 : j < l.length := by omega
    have k3 : i64ok ((j : Int) + 1) := by unfold i64ok; omega
    have k0 : (0 : Int) ≤ (j : Int) := by omega
    have hd : (cod 0).d = (0 : Int) := rfl
    have nx := ih (j + 1) (by omega)
    have e1 : l.drop j = l.getD j 0 :: l.drop (j + 1) := by rw [List.drop_eq_getElem_cons k2]; simp [List.getD, k2]
    rw [e1, F.orF] at hR
    refine Runs.go (cfg := C_cmpI) L_cmpI_ok mixed cuts_orI 400 hb (orI_t3 l l_t (j : Int)) ?_
    simp only [T.wp, T.wp_cond, Aft, Int.ofNat_eq_natCast, decide_eq_true_eq, and_true, true_and, Nat.zero_add, Bool.not_eq_true', decide_eq_false_iff_not, Int.toNat_natCast, k0, k1, k2, k3, hd, if_true]
    by_cases hz : l.getD j 0 = 0
    · rw [if_pos hz] at hR
      rw [if_neg (fun h => h hz)]
      exact nx hR
    · rw [if_neg hz] at hR
      rw [if_pos hz, hR]
theorem orI_run (l : List Int) (l_t : Bool) (b0 : Base) (hb : b0.n = 1) (h0 : List.length l ≤ 1000) : Sym.Runs Try.prog b0 [.code (codeOf Try.f70)] ⟨argsS Try.f70 [.c (.slc 0 0 (List.length l) l_t)], ([.inp 0 l] : Heap cod)⟩ (Sym.Ends Try.prog Try.f70 1 (.c (.int .i64 (F.orF l))) []) := by
  refine Runs.go (cfg := C_cmpI) L_cmpI_ok mixed cuts_orI 400 hb (orI_t0 l l_t) ?_
  simp only [T.wp, T.wp_cond, Aft, Int.ofNat_eq_natCast, decide_eq_true_eq, and_true, true_and, Nat.zero_add, Bool.not_eq_true', decide_eq_false_iff_not]
  exact orI_loop l l_t h0 b0 hb _ l.length 0 (by omega) rfl



noncomputable def s_orI : Summ cod := fun args H => match args, H with
  | [.c (.slc 0 l_i l_n l_t)], [o0] => (match o0.asInp 0 with | some l => .need ((l_i = 0 ∧ l_n = List.length l) ∧ (List.length l ≤ 1000)) (.ret (.c (.int .i64 (F.orF l)), [])) | none => .fail)
  | _, _ => .fail


theorem orI_sound : Sound Try.prog cod 70 s_orI := sound_runs (cfg := C_cmpI) L_cmpI_ok mixed Try.func70 rfl rfl _ fun args H r news hg b0 hb => by
  unfold s_orI at hg
  split at hg
  · skip
    split at hg
    · rename_i l hx0
      cases asInp_spec hx0
      simp only [T.gives, T.wp, Prod.mk.injEq] at hg
      obtain ⟨⟨⟨rfl, rfl⟩, q1⟩, rfl, rfl⟩ := hg
      exact orI_run _ _ b0 hb (by assumption)
    · exact hg.elim
  · exact hg.elim

noncomputable def L_orI : Sums cod := (70, .p s_orI) :: L_cmpI
noncomputable def C_orI : Cfg cod := mkC L_orI

theorem L_orI_ok : Snd Try.prog cod L_orI := .cons orI_sound L_cmpI_ok



def cuts_cmpS : Cuts := []

theorem cmpS_t0 (a1 a2 a3 a4 a5 a6 : Int) (b1 b2 b3 b4 b5 b6 : Int) : symF C_orI cuts_cmpS Try.f41.results.toList 0 400 [.code (codeOf Try.f41)] ⟨argsS Try.f41 [.agg [.int .i64 a1, .int .i64 a2, .int .i64 a3, .int .i64 a4, .int .i64 a5, .int .i64 a6], .agg [.int .i64 b1, .int .i64 b2, .int .i64 b3, .int .i64 b4, .int .i64 b5, .int .i64 b6]], ([] : Heap cod)⟩ =
.need (((0 = 0 ∧ 6 = 6) ∧ (6 : Nat) ≤ 1000)) (
.ret (.fin (.c (.int .i64 (F.orF [F.cmpI a1 b1, F.cmpI a6 b6, F.cmpI a2 b2, F.cmpI a3 b3, F.cmpI a4 b4, F.cmpI a5 b5]))) [])) := by kernel_rfl



theorem cmpS_run (a1 a2 a3 a4 a5 a6 : Int) (b1 b2 b3 b4 b5 b6 : Int) (b0 : Base) (hb : b0.n = 0)  : Sym.Runs Try.prog b0 [.code (codeOf Try.f41)] ⟨argsS Try.f41 [.agg [.int .i64 a1, .int .i64 a2, .int .i64 a3, .int .i64 a4, .int .i64 a5, .int .i64 a6], .agg [.int .i64 b1, .int .i64 b2, .int .i64 b3, .int .i64 b4, .int .i64 b5, .int .i64 b6]], ([] : Heap cod)⟩ (Sym.Ends Try.prog Try.f41 0 (.c (.int .i64 (F.cmpS (a1, a2, a3, a4, a5, a6) (b1, b2, b3, b4, b5, b6)))) []) := by
  refine Runs.go (cfg := C_orI) L_orI_ok mixed cuts_cmpS 400 hb (cmpS_t0 a1 a2 a3 a4 a5 a6 b1 b2 b3 b4 b5 b6) ?_
  simp only [T.wp, T.wp_cond, Aft, Int.ofNat_eq_natCast, decide_eq_true_eq, and_true, true_and, Nat.zero_add, Bool.not_eq_true', decide_eq_false_iff_not]
  exact ⟨by decide, rfl⟩



noncomputable def s_cmpS : Summ cod := fun args H => match args, H with
  | [.agg [.int .i64 a1, .int .i64 a2, .int .i64 a3, .int .i64 a4, .int .i64 a5, .int .i64 a6], .agg [.int .i64 b1, .int .i64 b2, .int .i64 b3, .int .i64 b4, .int .i64 b5, .int .i64 b6]], [] => .ret (.c (.int .i64 (F.cmpS (a1, a2, a3, a4, a5, a6) (b1, b2, b3, b4, b5, b6))), [])
  | _, _ => .fail


theorem cmpS_sound : Sound Try.prog cod 41 s_cmpS := sound_runs (cfg := C_orI) L_orI_ok mixed Try.func41 rfl rfl _ fun args H r news hg b0 hb => by
  unfold s_cmpS at hg
  split at hg
  · skip
    cases hg
    exact cmpS_run _ _ _ _ _ _ _ _ _ _ _ _ b0 hb 
  · exact hg.elim

noncomputable def L_cmpS : Sums cod := (41, .p s_cmpS) :: L_orI
noncomputable def C_cmpS : Cfg cod := mkC L_cmpS

theorem L_cmpS_ok : Snd Try.prog cod L_cmpS := .cons cmpS_sound L_orI_ok


end
end Go.Proofs.Ytbkpgpkeecnjpaa
