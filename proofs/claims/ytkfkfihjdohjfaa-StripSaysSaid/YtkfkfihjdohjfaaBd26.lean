/- Parts of the proof, one behind the other: Tb, Tc. -/
import Derived.Test.YtkfkfihjdohjfaaTa
section
namespace Go.Proofs.Ytkfkfihjdohjfaa
open Sym Go.RowKit
noncomputable section
set_option maxRecDepth 100000
set_option maxHeartbeats 4000000



def cuts_isnan : Cuts := []

theorem isnan_t0 (s : List UInt8) : symF C_rnamed cuts_isnan Try.f60.results.toList 0 400 [.code (codeOf Try.f60)] ⟨argsS Try.f60 [.c (.str s)], ([] : Heap cod)⟩ =
.ret (.fin (.c (.bool (!decide (s = s)))) []) := by kernel_rfl



theorem isnan_run (s : List UInt8) (b0 : Base) (hb : b0.n = 0)  : Sym.Runs Try.prog b0 [.code (codeOf Try.f60)] ⟨argsS Try.f60 [.c (.str s)], ([] : Heap cod)⟩ (Sym.Ends Try.prog Try.f60 0 (.c (.bool false)) []) := by
  refine Runs.go (cfg := C_rnamed) L_rnamed_ok mixed cuts_isnan 400 hb (isnan_t0 s) ?_
  simp [T.wp, T.wp_cond, Aft, Int.ofNat_eq_natCast, decide_eq_true_eq, and_true, true_and, Nat.zero_add, Bool.not_eq_true', decide_eq_false_iff_not]



noncomputable def s_isnan : Summ cod := fun args H => match args, H with
  | [.c (.str s)], [] => .ret (.c (.bool false), [])
  | _, _ => .fail


theorem isnan_sound : Sound Try.prog cod 60 s_isnan := sound_runs (cfg := C_rnamed) L_rnamed_ok mixed Try.func60 rfl rfl _ fun args H r news hg b0 hb => by
  unfold s_isnan at hg
  split at hg
  · skip
    cases hg
    exact isnan_run _ b0 hb 
  · exact hg.elim

noncomputable def L_isnan : Sums cod := (60, .p s_isnan) :: L_rnamed
noncomputable def C_isnan : Cfg cod := mkC L_isnan

theorem L_isnan_ok : Snd Try.prog cod L_isnan := .cons isnan_sound L_rnamed_ok



def cuts_scmp : Cuts := []

theorem scmp_t0 (a : List UInt8) (b : List UInt8) : symF C_isnan cuts_scmp Try.f47.results.toList 0 400 [.code (codeOf Try.f47)] ⟨argsS Try.f47 [.c (.str a), .c (.str b)], ([] : Heap cod)⟩ =
 cond (Op.bytesLess a b) (
 .ret (.fin (.c (.int .i64 (-1))) [])) (
 cond (!(Op.bytesLess a b || decide (a = b))) (
  .ret (.fin (.c (.int .i64 1)) [])) (
  .ret (.fin (.c (.int .i64 0)) []))) := by kernel_rfl



theorem scmp_run (a : List UInt8) (b : List UInt8) (b0 : Base) (hb : b0.n = 0)  : Sym.Runs Try.prog b0 [.code (codeOf Try.f47)] ⟨argsS Try.f47 [.c (.str a), .c (.str b)], ([] : Heap cod)⟩ (Sym.Ends Try.prog Try.f47 0 (.c (.int .i64 (F.scmp a b))) []) := by
  refine Runs.go (cfg := C_isnan) L_isnan_ok mixed cuts_scmp 400 hb (scmp_t0 a b) ?_
  have e : (Op.bytesLess a b || decide (a = b)) = !Op.bytesLess b a := lt_not
  simp only [T.wp, T.wp_cond, Aft, Int.ofNat_eq_natCast, decide_eq_true_eq, and_true, true_and, Nat.zero_add, Bool.not_eq_true', decide_eq_false_iff_not, e]
  unfold F.scmp F.lt
  cases Op.bytesLess a b <;> cases Op.bytesLess b a <;> simp



noncomputable def s_scmp : Summ cod := fun args H => match args, H with
  | [.c (.str a), .c (.str b)], [] => .ret (.c (.int .i64 (F.scmp a b)), [])
  | _, _ => .fail


theorem scmp_sound : Sound Try.prog cod 47 s_scmp := sound_runs (cfg := C_isnan) L_isnan_ok mixed Try.func47 rfl rfl _ fun args H r news hg b0 hb => by
  unfold s_scmp at hg
  split at hg
  · skip
    cases hg
    exact scmp_run _ _ b0 hb 
  · exact hg.elim

noncomputable def L_scmp : Sums cod := (47, .p s_scmp) :: L_isnan
noncomputable def C_scmp : Cfg cod := mkC L_scmp

theorem L_scmp_ok : Snd Try.prog cod L_scmp := .cons scmp_sound L_isnan_ok



def cuts_orI : Cuts := [(3, [3, 6, 7, 8], 1)]

theorem orI_t0 (l : List Int) (l_t : Bool) : symF C_scmp cuts_orI Try.f46.results.toList 1 400 [.code (codeOf Try.f46)] ⟨argsS Try.f46 [.c (.slc 0 0 (List.length l) l_t)], ([.inp 0 l] : Heap cod)⟩ =
.ret (.cut (cutAt Try.f46 3) ⟨tmG 9 [(3, .c (.int .i64 0)), (2, .c (.slc 0 0 (List.length l) l_t)), (0, .c (.int .i64 (Int.ofNat (List.length l)))), (0, .c (.int .i64 0))], [.inp 0 l]⟩) := by kernel_rfl


noncomputable def st_orI_3 (l : List Int) (l_t : Bool) (k : Int) : St cod := ⟨tmG 9 [(3, .c (.int .i64 0)), (2, .c (.slc 0 0 (List.length l) l_t)), (0, .c (.int .i64 (Int.ofNat (List.length l)))), (0, .c (.int .i64 k))], [.inp 0 l]⟩


theorem orI_t3 (l : List Int) (l_t : Bool) (k : Int) : symF C_scmp cuts_orI Try.f46.results.toList 1 400 (cutAt Try.f46 3) (st_orI_3 l l_t k) =
 cond (decide (k < Int.ofNat (List.length l))) (
 .need (((0 : Int) ≤ k ∧ k < Int.ofNat (List.length l))) (
 .need (0 + Int.toNat k < List.length l) (
 cond (!decide (List.getD l (0 + Int.toNat k) (cod 0).d = 0)) (
  .ret (.fin (.c (.int .i64 (List.getD l (0 + Int.toNat k) (cod 0).d))) [])) (
  .need (i64ok (k + 1)) (
  .ret (.cut (cutAt Try.f46 3) ⟨tmG 9 [(3, .c (.int .i64 0)), (2, .c (.slc 0 0 (List.length l) l_t)), (0, .c (.int .i64 (Int.ofNat (List.length l)))), (0, .c (.int .i64 (k + 1)))], [.inp 0 l]⟩)))))) (
 .ret (.fin (.c (.int .i64 0)) [])) := by kernel_rfl



theorem orI_loop (l : List Int) (l_t : Bool) (h0 : l.length ≤ 1000) (b0 : Base) (hb : b0.n = 1) (R : SV) : ∀ (m j : Nat), j + m = l.length → R = .c (.int .i64 (F.orF (l.drop j))) →
    Sym.Runs Try.prog b0 (cutAt Try.f46 3) (st_orI_3 l l_t (j : Int)) (Sym.Ends Try.prog Try.f46 1 R []) := by
  intro m
  induction m with
  | zero =>
    intro j hm hR
    refine Runs.go (cfg := C_scmp) L_scmp_ok mixed cuts_orI 400 hb (orI_t3 l l_t (j : Int)) ?_
    have k1 : ¬ (j : Int) < (l.length : Int) := by omega
    rw [List.drop_of_length_le (by omega)] at hR
    simp only [T.wp, T.wp_cond, Aft, Int.ofNat_eq_natCast, decide_eq_true_eq, and_true, true_and, Nat.zero_add, Bool.not_eq_true', decide_eq_false_iff_not, k1, if_false, hR]
    rfl
  | succ m ih =>
    intro j hm hR
    have k1 : (j : Int) < (l.length : Int) := by omega
    have k2 : j < l.length := by omega
    have k3 : i64ok ((j : Int) + 1) := by unfold i64ok; omega
    have k0 : (0 : Int) ≤ (j : Int) := by omega
    have hd : (cod 0).d = (0 : Int) := rfl
    have nx := ih (j + 1) (by omega)
    have e1 : l.drop j = l.getD j 0 :: l.drop (j + 1) := by rw [List.drop_eq_getElem_cons k2]; simp [List.getD, k2]
    rw [e1, F.orF] at hR
    refine Runs.go (cfg := C_scmp) L_scmp_ok mixed cuts_orI 400 hb (orI_t3 l l_t (j : Int)) ?_
    simp only [T.wp, T.wp_cond, Aft, Int.ofNat_eq_natCast, decide_eq_true_eq, and_true, true_and, Nat.zero_add, Bool.not_eq_true', decide_eq_false_iff_not, Int.toNat_natCast, k0, k1, k2, k3, hd, if_true]
    by_cases hz : l.getD j 0 = 0
    · rw [if_pos hz] at hR
      rw [if_neg (fun h => h hz)]
      exact nx hR
    · rw [if_neg hz] at hR
      rw [if_pos hz, hR]
theorem orI_run (l : List Int) (l_t : Bool) (b0 : Base) (hb : b0.n = 1) (h0 : List.length l ≤ 1000) : Sym.Runs Try.prog b0 [.code (codeOf Try.f46)] ⟨argsS Try.f46 [.c (.slc 0 0 (List.length l) l_t)], ([.inp 0 l] : Heap cod)⟩ (Sym.Ends Try.prog Try.f46 1 (.c (.int .i64 (F.orF l))) []) := by
  refine Runs.go (cfg := C_scmp) L_scmp_ok mixed cuts_orI 400 hb (orI_t0 l l_t) ?_
  simp only [T.wp, T.wp_cond, Aft, Int.ofNat_eq_natCast, decide_eq_true_eq, and_true, true_and, Nat.zero_add, Bool.not_eq_true', decide_eq_false_iff_not]
  exact orI_loop l l_t h0 b0 hb _ l.length 0 (by omega) rfl



noncomputable def s_orI : Summ cod := fun args H => match args, H with
  | [.c (.slc 0 l_i l_n l_t)], [o0] => (match o0.asInp 0 with | some l => .need ((l_i = 0 ∧ l_n = List.length l) ∧ (List.length l ≤ 1000)) (.ret (.c (.int .i64 (F.orF l)), [])) | none => .fail)
  | _, _ => .fail


theorem orI_sound : Sound Try.prog cod 46 s_orI := sound_runs (cfg := C_scmp) L_scmp_ok mixed Try.func46 rfl rfl _ fun args H r news hg b0 hb => by
  unfold s_orI at hg
  split at hg
  · skip
    split at hg
    · rename_i l hx0
      cases asInp_spec hx0
      simp only [T.gives, T.wp, Prod.mk.injEq] at hg
      obtain ⟨⟨⟨rfl, rfl⟩, q1⟩, rfl, rfl⟩ := hg
      exact orI_run _ _ b0 hb (by assumption)
    · exact hg.elim
  · exact hg.elim

noncomputable def L_orI : Sums cod := (46, .p s_orI) :: L_scmp
noncomputable def C_orI : Cfg cod := mkC L_orI

theorem L_orI_ok : Snd Try.prog cod L_orI := .cons orI_sound L_scmp_ok



def cuts_cmpB : Cuts := []

theorem cmpB_t0 (a1 : List UInt8) (a2 : List UInt8) (a3 a4 a5 : Int) (b1 : List UInt8) (b2 : List UInt8) (b3 b4 b5 : Int) : symF C_orI cuts_cmpB Try.f45.results.toList 0 400 [.code (codeOf Try.f45)] ⟨argsS Try.f45 [.agg [.str a1, .str a2, .int .i64 a3, .int .i64 a4, .int .i64 a5], .agg [.str b1, .str b2, .int .i64 b3, .int .i64 b4, .int .i64 b5]], ([] : Heap cod)⟩ =
.need (i64ok (a3 - b3)) (
.need (((0 = 0 ∧ 2 = 2) ∧ (2 : Nat) ≤ 1000)) (
.ret (.fin (.c (.int .i64 (F.orF [a3 - b3, F.scmp a1 b1]))) []))) := by kernel_rfl



theorem cmpB_run (a1 : List UInt8) (a2 : List UInt8) (a3 a4 a5 : Int) (b1 : List UInt8) (b2 : List UInt8) (b3 b4 b5 : Int) (b0 : Base) (hb : b0.n = 0) (h0 : 0 ≤ a3 ∧ a3 ≤ 200000) (h1 : 0 ≤ b3 ∧ b3 ≤ 200000) : Sym.Runs Try.prog b0 [.code (codeOf Try.f45)] ⟨argsS Try.f45 [.agg [.str a1, .str a2, .int .i64 a3, .int .i64 a4, .int .i64 a5], .agg [.str b1, .str b2, .int .i64 b3, .int .i64 b4, .int .i64 b5]], ([] : Heap cod)⟩ (Sym.Ends Try.prog Try.f45 0 (.c (.int .i64 (F.cmpB (a1, a2, a3, a4, a5) (b1, b2, b3, b4, b5)))) []) := by
  refine Runs.go (cfg := C_orI) L_orI_ok mixed cuts_cmpB 400 hb (cmpB_t0 a1 a2 a3 a4 a5 b1 b2 b3 b4 b5) ?_
  simp only [T.wp, T.wp_cond, Aft, Int.ofNat_eq_natCast, decide_eq_true_eq, and_true, true_and, Nat.zero_add, Bool.not_eq_true', decide_eq_false_iff_not]
  exact ⟨by unfold i64ok; omega, by decide, rfl⟩



noncomputable def s_cmpB : Summ cod := fun args H => match args, H with
  | [.agg [.str a1, .str a2, .int .i64 a3, .int .i64 a4, .int .i64 a5], .agg [.str b1, .str b2, .int .i64 b3, .int .i64 b4, .int .i64 b5]], [] => .need ((0 ≤ a3 ∧ a3 ≤ 200000) ∧ (0 ≤ b3 ∧ b3 ≤ 200000)) (.ret (.c (.int .i64 (F.cmpB (a1, a2, a3, a4, a5) (b1, b2, b3, b4, b5))), []))
  | _, _ => .fail


theorem cmpB_sound : Sound Try.prog cod 45 s_cmpB := sound_runs (cfg := C_orI) L_orI_ok mixed Try.func45 rfl rfl _ fun args H r news hg b0 hb => by
  unfold s_cmpB at hg
  split at hg
  · skip
    simp only [T.gives, T.wp, Prod.mk.injEq] at hg
    obtain ⟨⟨q0, q1⟩, rfl, rfl⟩ := hg
    exact cmpB_run _ _ _ _ _ _ _ _ _ _ b0 hb (by assumption) (by assumption)
  · exact hg.elim

noncomputable def L_cmpB : Sums cod := (45, .p s_cmpB) :: L_orI
noncomputable def C_cmpB : Cfg cod := mkC L_cmpB

theorem L_cmpB_ok : Snd Try.prog cod L_cmpB := .cons cmpB_sound L_orI_ok


end
end Go.Proofs.Ytkfkfihjdohjfaa
end
section
namespace Go.Proofs.Ytkfkfihjdohjfaa
open Sym Go.RowKit
noncomputable section
set_option maxRecDepth 100000
set_option maxHeartbeats 4000000



def cuts_ixc : Cuts := []

theorem ixc_t0 (a1 : List UInt8) (a2 : List UInt8) (a3 a4 a5 : Int) (c : List UInt8) : symF C_cmpB cuts_ixc Try.f58.results.toList 1 400 [.code (codeOf Try.f58)] ⟨argsS Try.f58 [.agg [.str a1, .str a2, .int .i64 a3, .int .i64 a4, .int .i64 a5], .c (.ptr 0 0 0)], ([.rblk [.str c]] : Heap cod)⟩ =
.ret (.fin (.c (.bool (decide (a1 = c)))) []) := by kernel_rfl



theorem ixc_run (a1 : List UInt8) (a2 : List UInt8) (a3 a4 a5 : Int) (c : List UInt8) (b0 : Base) (hb : b0.n = 1)  : Sym.Runs Try.prog b0 [.code (codeOf Try.f58)] ⟨argsS Try.f58 [.agg [.str a1, .str a2, .int .i64 a3, .int .i64 a4, .int .i64 a5], .c (.ptr 0 0 0)], ([.rblk [.str c]] : Heap cod)⟩ (Sym.Ends Try.prog Try.f58 1 (.c (.bool (decide (a1 = c)))) []) := by
  refine Runs.go (cfg := C_cmpB) L_cmpB_ok mixed cuts_ixc 400 hb (ixc_t0 a1 a2 a3 a4 a5 c) ?_
  simp only [T.wp, T.wp_cond, Aft, Int.ofNat_eq_natCast, decide_eq_true_eq, and_true, true_and, Nat.zero_add, Bool.not_eq_true', decide_eq_false_iff_not]



noncomputable def s_ixc : Summ cod := fun args H => match args, H with
  | [.agg [.str a1, .str a2, .int .i64 a3, .int .i64 a4, .int .i64 a5], .c (.ptr 0 0 0)], [.rblk [.str c]] => .ret (.c (.bool (decide (a1 = c))), [])
  | _, _ => .fail


theorem ixc_sound : Sound Try.prog cod 58 s_ixc := sound_runs (cfg := C_cmpB) L_cmpB_ok mixed Try.func58 rfl rfl _ fun args H r news hg b0 hb => by
  unfold s_ixc at hg
  split at hg
  · skip
    cases hg
    exact ixc_run _ _ _ _ _ _ b0 hb 
  · exact hg.elim

noncomputable def L_ixc : Sums cod := (58, .p s_ixc) :: L_cmpB
noncomputable def C_ixc : Cfg cod := mkC L_ixc

theorem L_ixc_ok : Snd Try.prog cod L_ixc := .cons ixc_sound L_cmpB_ok



def cuts_ixA : Cuts := [(2, [0, 1, 7, 8], 2)]

theorem ixA_t0 (l : List (List UInt8 × List UInt8 × Int × Int × Int)) (l_t : Bool) (c : List UInt8) : symF C_ixc cuts_ixA Try.f7.results.toList 2 400 [.code (codeOf Try.f7)] ⟨argsS Try.f7 [.c (.slc 0 0 (List.length l) l_t), .c (.fn 58 [(1, 0, 0)])], ([.inp 1 l, .rblk [.str c]] : Heap cod)⟩ =
.ret (.cut (cutAt Try.f7 2) ⟨tmG 10 [(0, .c (.slc 0 0 (List.length l) l_t)), (0, .c (.fn 58 [(1, 0, 0)])), (5, .c (.int .i64 (Int.ofNat (List.length l)))), (0, .c (.int .i64 0))], [.inp 1 l, .rblk [.str c]]⟩) := by kernel_rfl


noncomputable def st_ixA_2 (l : List (List UInt8 × List UInt8 × Int × Int × Int)) (l_t : Bool) (c : List UInt8) (i : Int) : St cod := ⟨tmG 10 [(0, .c (.slc 0 0 (List.length l) l_t)), (0, .c (.fn 58 [(1, 0, 0)])), (5, .c (.int .i64 (Int.ofNat (List.length l)))), (0, .c (.int .i64 i))], [.inp 1 l, .rblk [.str c]]⟩


theorem ixA_t2 (l : List (List UInt8 × List UInt8 × Int × Int × Int)) (l_t : Bool) (c : List UInt8) (i : Int) : symF C_ixc cuts_ixA Try.f7.results.toList 2 400 (cutAt Try.f7 2) (st_ixA_2 l l_t c i) =
 cond (decide (i < Int.ofNat (List.length l))) (
 .need (((0 : Int) ≤ i ∧ i < Int.ofNat (List.length l))) (
 .need (0 + Int.toNat i < List.length l) (
 cond (decide ((List.getD l (0 + Int.toNat i) (cod 1).d).1 = c)) (
  .ret (.fin (.c (.int .i64 i)) [])) (
  .need (i64ok (i + 1)) (
  .ret (.cut (cutAt Try.f7 2) ⟨tmG 10 [(0, .c (.slc 0 0 (List.length l) l_t)), (0, .c (.fn 58 [(1, 0, 0)])), (5, .c (.int .i64 (Int.ofNat (List.length l)))), (0, .c (.int .i64 (i + 1)))], [.inp 1 l, .rblk [.str c]]⟩)))))) (
 .ret (.fin (.c (.int .i64 (-1))) [])) := by kernel_rfl



theorem ixA_run (l : List (List UInt8 × List UInt8 × Int × Int × Int)) (l_t : Bool) (c : List UInt8) (b0 : Base) (hb : b0.n = 2) (h0 : List.length l ≤ 1000000) : Sym.Runs Try.prog b0 [.code (codeOf Try.f7)] ⟨argsS Try.f7 [.c (.slc 0 0 (List.length l) l_t), .c (.fn 58 [(1, 0, 0)])], ([.inp 1 l, .rblk [.str c]] : Heap cod)⟩ (Sym.Ends Try.prog Try.f7 2 (.c (.int .i64 (F.idx l c))) []) := by
  have key : ∀ (m : Nat) (i : Int), 0 ≤ i → i + m = l.length → F.idx l c = F.idxG c (l.drop i.toNat) i →
      Sym.Runs Try.prog b0 (cutAt Try.f7 2) (st_ixA_2 l l_t c i) (Sym.Ends Try.prog Try.f7 2 (.c (.int .i64 (F.idx l c))) []) := by
    intro m
    induction m with
    | zero =>
      intro i hi hm hR
      refine Runs.go (cfg := C_ixc) L_ixc_ok mixed cuts_ixA 400 hb (ixA_t2 l l_t c i) ?_
      have h1 : ¬ i < (l.length : Int) := by omega
      rw [drop_end l h1] at hR
      simp only [T.wp, T.wp_cond, Aft, Int.ofNat_eq_natCast, decide_eq_true_eq, and_true, true_and, Nat.zero_add, Bool.not_eq_true', decide_eq_false_iff_not]
      refine ite_no h1 ?_
      rw [hR]
      rfl
    | succ m ih =>
      intro i hi hm hR
      refine Runs.go (cfg := C_ixc) L_ixc_ok mixed cuts_ixA 400 hb (ixA_t2 l l_t c i) ?_
      have h1 : i < (l.length : Int) := by omega
      rw [drop_at l (cod 1).d hi h1] at hR
      have nx := ih (i + 1) (by omega) (by omega)
      simp only [T.wp, T.wp_cond, Aft, Int.ofNat_eq_natCast, decide_eq_true_eq, and_true, true_and, Nat.zero_add, Bool.not_eq_true', decide_eq_false_iff_not, Nat.zero_add]
      generalize l.getD i.toNat (cod 1).d = p at *
      refine ite_yes h1 ⟨⟨hi, h1⟩, by omega, ?_⟩
      by_cases e : p.1 = c
      · refine ite_yes e ?_
        rw [hR, F.idxG, if_pos e]
      · refine ite_no e ⟨by unfold Sym.i64ok; omega, nx ?_⟩
        rw [hR, F.idxG, if_neg e]
  refine Runs.go (cfg := C_ixc) L_ixc_ok mixed cuts_ixA 400 hb (ixA_t0 l l_t c) ?_
  simp only [T.wp, T.wp_cond, Aft, Int.ofNat_eq_natCast, decide_eq_true_eq, and_true, true_and, Nat.zero_add, Bool.not_eq_true', decide_eq_false_iff_not]
  exact key l.length 0 (by omega) (by omega) rfl



noncomputable def s_ixA : Summ cod := fun args H => match args, H with
  | [.c (.slc 0 l_i l_n l_t), .c (.fn 58 [(1, 0, 0)])], [o0, .rblk [.str c]] => (match o0.asInp 1 with | some l => .need ((l_i = 0 ∧ l_n = List.length l) ∧ (List.length l ≤ 1000000)) (.ret (.c (.int .i64 (F.idx l c)), [])) | none => .fail)
  | _, _ => .fail


theorem ixA_sound : Sound Try.prog cod 7 s_ixA := sound_runs (cfg := C_ixc) L_ixc_ok mixed Try.func7 rfl rfl _ fun args H r news hg b0 hb => by
  unfold s_ixA at hg
  split at hg
  · skip
    split at hg
    · rename_i l hx0
      cases asInp_spec hx0
      simp only [T.gives, T.wp, Prod.mk.injEq] at hg
      obtain ⟨⟨⟨rfl, rfl⟩, q1⟩, rfl, rfl⟩ := hg
      exact ixA_run _ _ _ b0 hb (by assumption)
    · exact hg.elim
  · exact hg.elim

noncomputable def L_ixA : Sums cod := (7, .p s_ixA) :: L_ixc
noncomputable def C_ixA : Cfg cod := mkC L_ixA

theorem L_ixA_ok : Snd Try.prog cod L_ixA := .cons ixA_sound L_ixc_ok


end
end Go.Proofs.Ytkfkfihjdohjfaa
end
