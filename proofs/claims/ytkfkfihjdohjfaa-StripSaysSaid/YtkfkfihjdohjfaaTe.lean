/- Part of a claim: lemmas on the way to its theorem; each states its own conditions. -/
import Derived.Test.YtkfkfihjdohjfaaBd26
import Derived.Test.YtkfkfihjdohjfaaBd28
import Derived.Test.YtkfkfihjdohjfaaBd30
namespace Go.Proofs.Ytkfkfihjdohjfaa
open Sym Go.RowKit
noncomputable section
set_option maxRecDepth 100000
set_option maxHeartbeats 4000000


noncomputable def L_sortB : Sums cod := (44, .k s_sortB) :: L_ixA
noncomputable def C_sortB : Cfg cod := mkC L_sortB

theorem L_sortB_ok : Snd Try.prog cod L_sortB := .consK sortB_sound L_ixA_ok



namespace F
def nob (b : Int) : Bool := decide (b < 0) || decide (3 < b)
def chkS (c f : List UInt8) (t h b : Int) : Int := if named c && named f then (if inb t 0 200000 && (inb h 0 60000 && !nob b) then 0 else 4) else 6
def prm (a b : Int) : Bool := (decide (a = 0) && decide (b = 1)) || ((decide (a = 1) && (decide (b = 2) || decide (b = 3))) || (decide (a = 2) && (decide (b = 1) || decide (b = 3))))
def gt (l : List St) (c : List UInt8) : St := if 0 ≤ idx l c then l.getD (idx l c).toNat st0 else st0
def gt1 (l : List St) (c : List UInt8) : List UInt8 := (gt l c).1
def gt2 (l : List St) (c : List UInt8) : List UInt8 := (gt l c).2.1
def gt3 (l : List St) (c : List UInt8) : Int := (gt l c).2.2.1
def gt4 (l : List St) (c : List UInt8) : Int := (gt l c).2.2.2.1
def gt5 (l : List St) (c : List UInt8) : Int := (gt l c).2.2.2.2
def gtE (l : List St) (c : List UInt8) : Int := if 0 ≤ idx l c then 0 else 8
end F


def cuts_bidx : Cuts := []

theorem bidx_t0 (l : List (List UInt8 × List UInt8 × Int × Int × Int)) (l_t : Bool) (c : List UInt8) : symF C_sortB cuts_bidx Try.f41.results.toList 2 400 [.code (codeOf Try.f41)] ⟨argsS Try.f41 [.c (.ptr 0 0 0), .c (.str c)], ([.rblk [.slc 1 0 (List.length l) l_t], .inp 1 l] : Heap cod)⟩ =
.need (((0 = 0 ∧ List.length l = List.length l) ∧ List.length l ≤ 1000000)) (
.ret (.fin (.c (.int .i64 (F.idx l c))) [])) := by kernel_rfl



theorem bidx_run (l : List (List UInt8 × List UInt8 × Int × Int × Int)) (l_t : Bool) (c : List UInt8) (b0 : Base) (hb : b0.n = 2) (h0 : l.length ≤ 100000) : Sym.Runs Try.prog b0 [.code (codeOf Try.f41)] ⟨argsS Try.f41 [.c (.ptr 0 0 0), .c (.str c)], ([.rblk [.slc 1 0 (List.length l) l_t], .inp 1 l] : Heap cod)⟩ (Sym.Ends Try.prog Try.f41 2 (.c (.int .i64 (F.idx l c))) []) := by
  refine Runs.go (cfg := C_sortB) L_sortB_ok mixed cuts_bidx 400 hb (bidx_t0 l l_t c) ?_
  simp only [T.wp, T.wp_cond, Aft, Int.ofNat_eq_natCast, decide_eq_true_eq, and_true, true_and, Nat.zero_add, Bool.not_eq_true', decide_eq_false_iff_not]
  omega



noncomputable def s_bidx : Summ cod := fun args H => match args, H with
  | [.c (.ptr 0 0 0), .c (.str c)], [.rblk [.slc 1 l_i l_n l_t], o1] => (match o1.asInp 1 with | some l => .need ((l_i = 0 ∧ l_n = List.length l) ∧ (l.length ≤ 100000)) (.ret (.c (.int .i64 (F.idx l c)), [])) | none => .fail)
  | _, _ => .fail


theorem bidx_sound : Sound Try.prog cod 41 s_bidx := sound_runs (cfg := C_sortB) L_sortB_ok mixed Try.func41 rfl rfl _ fun args H r news hg b0 hb => by
  unfold s_bidx at hg
  split at hg
  · skip
    split at hg
    · rename_i l hx1
      cases asInp_spec hx1
      simp only [T.gives, T.wp, Prod.mk.injEq] at hg
      obtain ⟨⟨⟨rfl, rfl⟩, q1⟩, rfl, rfl⟩ := hg
      exact bidx_run _ _ _ b0 hb (by assumption)
    · exact hg.elim
  · exact hg.elim

noncomputable def L_bidx : Sums cod := (41, .p s_bidx) :: L_sortB
noncomputable def C_bidx : Cfg cod := mkC L_bidx

theorem L_bidx_ok : Snd Try.prog cod L_bidx := .cons bidx_sound L_sortB_ok



def cuts_bbay : Cuts := [(3, [1, 11, 12, 13, 5], 4)]

theorem bbay_t0 (l : List (List UInt8 × List UInt8 × Int × Int × Int)) (l_t : Bool) (b : Int) : symF C_bidx cuts_bbay Try.f20.results.toList 2 400 [.code (codeOf Try.f20)] ⟨argsS Try.f20 [.c (.ptr 0 0 0), .c (.int .i64 b)], ([.rblk [.slc 1 0 (List.length l) l_t], .inp 1 l] : Heap cod)⟩ =
.ret (.cut (cutAt Try.f20 3) ⟨tmG 15 [(1, .c (.int .i64 b)), (3, .c (.own 3 0)), (5, .c (.slc 1 0 (List.length l) l_t)), (0, .c (.int .i64 (Int.ofNat (List.length l)))), (0, .c (.int .i64 0))], [.rblk [.slc 1 0 (List.length l) l_t], .inp 1 l, .own 1 [] 26, .own 1 [] 26]⟩) := by kernel_rfl


noncomputable def st_bbay_3 (l : List (List UInt8 × List UInt8 × Int × Int × Int)) (l_t : Bool) (b : Int) (j : Int) (ts : List (List UInt8 × List UInt8 × Int × Int × Int)) (q : Nat) : St cod := ⟨tmG 15 [(1, .c (.int .i64 b)), (3, .c (.own 3 q)), (5, .c (.slc 1 0 (List.length l) l_t)), (0, .c (.int .i64 (Int.ofNat (List.length l)))), (0, .c (.int .i64 j))], ([.rblk [.slc 1 0 (List.length l) l_t], .inp 1 l, .own 1 [] 26, .own 1 ts 26] : Heap cod)⟩


theorem bbay_t3 (l : List (List UInt8 × List UInt8 × Int × Int × Int)) (l_t : Bool) (b : Int) (j : Int) (ts : List (List UInt8 × List UInt8 × Int × Int × Int)) (q : Nat) : symF C_bidx cuts_bbay Try.f20.results.toList 2 400 (cutAt Try.f20 3) (st_bbay_3 l l_t b j ts q) =
 cond (decide (j < Int.ofNat (List.length l))) (
 .need (((0 : Int) ≤ j ∧ j < Int.ofNat (List.length l))) (
 .need (0 + Int.toNat j < List.length l) (
 cond (decide ((List.getD l (0 + Int.toNat j) (cod 1).d).2.2.2.2 = b)) (
  .need (1 = 1) (
  .need (q + 1 ≤ 1000000) (
  .need (i64ok (j + 1)) (
  .ret (.cut (cutAt Try.f20 3) ⟨tmG 15 [(1, .c (.int .i64 b)), (3, .c (.own 3 (q + 1))), (5, .c (.slc 1 0 (List.length l) l_t)), (0, .c (.int .i64 (Int.ofNat (List.length l)))), (0, .c (.int .i64 (j + 1)))], [.rblk [.slc 1 0 (List.length l) l_t], .inp 1 l, .own 1 [] 26, .own 1 (ts ++ ([((List.getD l (0 + Int.toNat j) (cod 1).d).1, (List.getD l (0 + Int.toNat j) (cod 1).d).2.1,     (List.getD l (0 + Int.toNat j) (cod 1).d).2.2.1, (List.getD l (0 + Int.toNat j) (cod 1).d).2.2.2.1,     (List.getD l (0 + Int.toNat j) (cod 1).d).2.2.2.2)])) 26]⟩))))) (
  .need (i64ok (j + 1)) (
  .ret (.cut (cutAt Try.f20 3) ⟨tmG 15 [(1, .c (.int .i64 b)), (3, .c (.own 3 (q))), (5, .c (.slc 1 0 (List.length l) l_t)), (0, .c (.int .i64 (Int.ofNat (List.length l)))), (0, .c (.int .i64 (j + 1)))], [.rblk [.slc 1 0 (List.length l) l_t], .inp 1 l, .own 1 [] 26, .own 1 ts 26]⟩)))))) (
 .need ((F.okB ts ∧ List.length ts ≤ 1000000)) (
 .ret (.fin (.c (.own 2 (q))) [.own 1 (F.sortB ts) 26]))) := by kernel_rfl



theorem okB_filter {l : List F.St} (h : F.okB l) (p : F.St → Bool) : F.okB (l.filter p) := ⟨dst_filter h.1 p, fun x hx => h.2 x (List.mem_filter.1 hx).1⟩
theorem bbay_run (l : List (List UInt8 × List UInt8 × Int × Int × Int)) (l_t : Bool) (b : Int) (b0 : Base) (hb : b0.n = 2) (h0 : F.okB l) (h1 : l.length ≤ 100000) : Sym.Runs Try.prog b0 [.code (codeOf Try.f20)] ⟨argsS Try.f20 [.c (.ptr 0 0 0), .c (.int .i64 b)], ([.rblk [.slc 1 0 (List.length l) l_t], .inp 1 l] : Heap cod)⟩ (Sym.Ends Try.prog Try.f20 2 (.c (.own 2 (List.length (F.bay l b)))) [.own 1 (F.bay l b) 26]) := by
  have key : ∀ (m : Nat) (j : Int) (ts : List F.St), 0 ≤ j → j + m = l.length → ts ++ (l.drop j.toNat).filter (F.inB b) = l.filter (F.inB b) → (ts.length : Int) ≤ j →
      Sym.Runs Try.prog b0 (cutAt Try.f20 3) (st_bbay_3 l l_t b j ts ts.length) (Sym.Ends Try.prog Try.f20 2 (.c (.own 2 (List.length (F.bay l b)))) [.own 1 (F.bay l b) 26]) := by
    intro m
    induction m with
    | zero =>
      intro j ts hj hm hs hl
      refine Runs.go (cfg := C_bidx) L_bidx_ok mixed cuts_bbay 400 hb (bbay_t3 l l_t b j ts ts.length) ?_
      have h1' : ¬ j < (l.length : Int) := by omega
      rw [drop_end l h1'] at hs
      have e : ts = l.filter (F.inB b) := by rw [← hs]; simp
      simp only [T.wp, T.wp_cond, Aft, Int.ofNat_eq_natCast, decide_eq_true_eq, and_true, true_and, Nat.zero_add, Bool.not_eq_true', decide_eq_false_iff_not]
      refine ite_no h1' ⟨⟨by rw [e]; exact okB_filter h0 _, by omega⟩, ?_⟩
      have el : ts.length = (F.bay l b).length := by rw [bay_len, F.cnt, ← e]
      have eb : F.sortB ts = F.bay l b := by rw [F.bay, ← e]
      rw [el, eb]
      exact ⟨rfl, rfl⟩
    | succ m ih =>
      intro j ts hj hm hs hl
      refine Runs.go (cfg := C_bidx) L_bidx_ok mixed cuts_bbay 400 hb (bbay_t3 l l_t b j ts ts.length) ?_
      have h1' : j < (l.length : Int) := by omega
      rw [drop_at l (cod 1).d hj h1'] at hs
      have n1 := ih (j + 1) ts (by omega) (by omega)
      have n2 := ih (j + 1) (ts ++ [l.getD j.toNat (cod 1).d]) (by omega) (by omega)
      simp only [T.wp, T.wp_cond, Aft, Int.ofNat_eq_natCast, decide_eq_true_eq, and_true, true_and, Nat.zero_add, Bool.not_eq_true', decide_eq_false_iff_not, Nat.zero_add]
      generalize l.getD j.toNat (cod 1).d = p at *
      refine ite_yes h1' ⟨⟨hj, h1'⟩, by omega, ?_⟩
      by_cases e : p.2.2.2.2 = b
      · have e' : F.inB b p = true := decide_eq_true e
        rw [List.filter_cons_of_pos e'] at hs
        have el : (ts ++ [p]).length = ts.length + 1 := by simp
        rw [el] at n2
        exact ite_yes e ⟨by omega, by unfold Sym.i64ok; omega, n2 (by rw [← hs]; simp) (by omega)⟩
      · have e' : ¬ F.inB b p = true := by unfold F.inB; simp [e]
        rw [List.filter_cons_of_neg e'] at hs
        exact ite_no e ⟨by unfold Sym.i64ok; omega, n1 hs (by omega)⟩
  refine Runs.go (cfg := C_bidx) L_bidx_ok mixed cuts_bbay 400 hb (bbay_t0 l l_t b) ?_
  simp only [T.wp, T.wp_cond, Aft, Int.ofNat_eq_natCast, decide_eq_true_eq, and_true, true_and, Nat.zero_add, Bool.not_eq_true', decide_eq_false_iff_not]
  exact key l.length 0 [] (by omega) (by omega) (by simp) (by simp)



noncomputable def s_bbay : Summ cod := fun args H => match args, H with
  | [.c (.ptr 0 0 0), .c (.int .i64 b)], [.rblk [.slc 1 l_i l_n l_t], o1] => (match o1.asInp 1 with | some l => .need ((l_i = 0 ∧ l_n = List.length l) ∧ (F.okB l) ∧ (l.length ≤ 100000)) (.ret (.c (.own 2 (List.length (F.bay l b))), [.own 1 (F.bay l b) 26])) | none => .fail)
  | _, _ => .fail


theorem bbay_sound : Sound Try.prog cod 20 s_bbay := sound_runs (cfg := C_bidx) L_bidx_ok mixed Try.func20 rfl rfl _ fun args H r news hg b0 hb => by
  unfold s_bbay at hg
  split at hg
  · skip
    split at hg
    · rename_i l hx1
      cases asInp_spec hx1
      simp only [T.gives, T.wp, Prod.mk.injEq] at hg
      obtain ⟨⟨⟨rfl, rfl⟩, q1, q2⟩, rfl, rfl⟩ := hg
      exact bbay_run _ _ _ b0 hb (by assumption) (by assumption)
    · exact hg.elim
  · exact hg.elim

noncomputable def L_bbay : Sums cod := (20, .p s_bbay) :: L_bidx
noncomputable def C_bbay : Cfg cod := mkC L_bbay

theorem L_bbay_ok : Snd Try.prog cod L_bbay := .cons bbay_sound L_bidx_ok



def cuts_bful : Cuts := []

theorem bful_t0 (l : List (List UInt8 × List UInt8 × Int × Int × Int)) (l_t : Bool) (b : Int) : symF C_bbay cuts_bful Try.f42.results.toList 2 400 [.code (codeOf Try.f42)] ⟨argsS Try.f42 [.c (.ptr 0 0 0), .c (.int .i64 b)], ([.rblk [.slc 1 0 (List.length l) l_t], .inp 1 l] : Heap cod)⟩ =
.need (((0 = 0 ∧ List.length l = List.length l) ∧ (F.okB l ∧ List.length l ≤ 100000))) (
.ret (.fin (.c (.bool (decide (16 ≤ Int.ofNat (List.length (F.bay l b)))))) [])) := by kernel_rfl



theorem bful_run (l : List (List UInt8 × List UInt8 × Int × Int × Int)) (l_t : Bool) (b : Int) (b0 : Base) (hb : b0.n = 2) (h0 : F.okB l) (h1 : l.length ≤ 100000) : Sym.Runs Try.prog b0 [.code (codeOf Try.f42)] ⟨argsS Try.f42 [.c (.ptr 0 0 0), .c (.int .i64 b)], ([.rblk [.slc 1 0 (List.length l) l_t], .inp 1 l] : Heap cod)⟩ (Sym.Ends Try.prog Try.f42 2 (.c (.bool (decide (16 ≤ (F.cnt l b : Int))))) []) := by
  refine Runs.go (cfg := C_bbay) L_bbay_ok mixed cuts_bful 400 hb (bful_t0 l l_t b) ?_
  simp only [T.wp, T.wp_cond, Aft, Int.ofNat_eq_natCast, decide_eq_true_eq, and_true, true_and, Nat.zero_add, Bool.not_eq_true', decide_eq_false_iff_not, bay_len]
  exact ⟨h0, h1⟩



noncomputable def s_bful : Summ cod := fun args H => match args, H with
  | [.c (.ptr 0 0 0), .c (.int .i64 b)], [.rblk [.slc 1 l_i l_n l_t], o1] => (match o1.asInp 1 with | some l => .need ((l_i = 0 ∧ l_n = List.length l) ∧ (F.okB l) ∧ (l.length ≤ 100000)) (.ret (.c (.bool (decide (16 ≤ (F.cnt l b : Int)))), [])) | none => .fail)
  | _, _ => .fail


theorem bful_sound : Sound Try.prog cod 42 s_bful := sound_runs (cfg := C_bbay) L_bbay_ok mixed Try.func42 rfl rfl _ fun args H r news hg b0 hb => by
  unfold s_bful at hg
  split at hg
  · skip
    split at hg
    · rename_i l hx1
      cases asInp_spec hx1
      simp only [T.gives, T.wp, Prod.mk.injEq] at hg
      obtain ⟨⟨⟨rfl, rfl⟩, q1, q2⟩, rfl, rfl⟩ := hg
      exact bful_run _ _ _ b0 hb (by assumption) (by assumption)
    · exact hg.elim
  · exact hg.elim

noncomputable def L_bful : Sums cod := (42, .p s_bful) :: L_bbay
noncomputable def C_bful : Cfg cod := mkC L_bful

theorem L_bful_ok : Snd Try.prog cod L_bful := .cons bful_sound L_bbay_ok



def cuts_nob : Cuts := []

theorem nob_t0 (b : Int) : symF C_bful cuts_nob Try.f40.results.toList 0 400 [.code (codeOf Try.f40)] ⟨argsS Try.f40 [.c (.int .i64 b)], ([] : Heap cod)⟩ =
 cond (decide (b < 0)) (
 .ret (.fin (.c (.bool true)) [])) (
 .ret (.fin (.c (.bool (decide (3 < b)))) [])) := by kernel_rfl



theorem nob_run (b : Int) (b0 : Base) (hb : b0.n = 0)  : Sym.Runs Try.prog b0 [.code (codeOf Try.f40)] ⟨argsS Try.f40 [.c (.int .i64 b)], ([] : Heap cod)⟩ (Sym.Ends Try.prog Try.f40 0 (.c (.bool (F.nob b))) []) := by
  refine Runs.go (cfg := C_bful) L_bful_ok mixed cuts_nob 400 hb (nob_t0 b) ?_
  unfold F.nob
  simp only [T.wp, T.wp_cond, Aft, Int.ofNat_eq_natCast, decide_eq_true_eq, and_true, true_and, Nat.zero_add, Bool.not_eq_true', decide_eq_false_iff_not]
  by_cases h1 : b < 0 <;> simp [h1]



noncomputable def s_nob : Summ cod := fun args H => match args, H with
  | [.c (.int .i64 b)], [] => .ret (.c (.bool (F.nob b)), [])
  | _, _ => .fail


theorem nob_sound : Sound Try.prog cod 40 s_nob := sound_runs (cfg := C_bful) L_bful_ok mixed Try.func40 rfl rfl _ fun args H r news hg b0 hb => by
  unfold s_nob at hg
  split at hg
  · skip
    cases hg
    exact nob_run _ b0 hb 
  · exact hg.elim

noncomputable def L_nob : Sums cod := (40, .p s_nob) :: L_bful
noncomputable def C_nob : Cfg cod := mkC L_nob

theorem L_nob_ok : Snd Try.prog cod L_nob := .cons nob_sound L_bful_ok



def cuts_scheck : Cuts := []

theorem scheck_t0 (c : List UInt8) (f : List UInt8) (t h b : Int) : symF C_nob cuts_scheck Try.f5.results.toList 0 400 [.code (codeOf Try.f5)] ⟨argsS Try.f5 [.agg [.str c, .str f, .int .i64 t, .int .i64 h, .int .i64 b]], ([] : Heap cod)⟩ =
 cond (!F.named c) (
 .ret (.fin (.c (.int .i64 6)) [])) (
 cond (!F.named f) (
  .ret (.fin (.c (.int .i64 6)) [])) (
  cond (decide (t < 0)) (
   .ret (.fin (.c (.int .i64 4)) [])) (
   cond (decide (200000 < t)) (
    .ret (.fin (.c (.int .i64 4)) [])) (
    cond (decide (h < 0)) (
     .ret (.fin (.c (.int .i64 4)) [])) (
     cond (decide (60000 < h)) (
      .ret (.fin (.c (.int .i64 4)) [])) (
      cond (F.nob b) (
       .ret (.fin (.c (.int .i64 4)) [])) (
       .ret (.fin (.c (.int .i64 0)) [])))))))) := by kernel_rfl



theorem scheck_run (c : List UInt8) (f : List UInt8) (t h b : Int) (b0 : Base) (hb : b0.n = 0)  : Sym.Runs Try.prog b0 [.code (codeOf Try.f5)] ⟨argsS Try.f5 [.agg [.str c, .str f, .int .i64 t, .int .i64 h, .int .i64 b]], ([] : Heap cod)⟩ (Sym.Ends Try.prog Try.f5 0 (.c (.int .i64 (F.chkS c f t h b))) []) := by
  refine Runs.go (cfg := C_nob) L_nob_ok mixed cuts_scheck 400 hb (scheck_t0 c f t h b) ?_
  unfold F.chkS F.inb
  simp only [T.wp, T.wp_cond, Aft, Int.ofNat_eq_natCast, decide_eq_true_eq, and_true, true_and, Nat.zero_add, Bool.not_eq_true', decide_eq_false_iff_not]
  cases F.named c <;> cases F.named f <;> cases F.nob b <;> by_cases h1 : t < 0 <;> by_cases h2 : 200000 < t <;> by_cases h3 : h < 0 <;> by_cases h4 : 60000 < h <;> simp_all <;> omega



noncomputable def s_scheck : Summ cod := fun args H => match args, H with
  | [.agg [.str c, .str f, .int .i64 t, .int .i64 h, .int .i64 b]], [] => .ret (.c (.int .i64 (F.chkS c f t h b)), [])
  | _, _ => .fail


theorem scheck_sound : Sound Try.prog cod 5 s_scheck := sound_runs (cfg := C_nob) L_nob_ok mixed Try.func5 rfl rfl _ fun args H r news hg b0 hb => by
  unfold s_scheck at hg
  split at hg
  · skip
    cases hg
    exact scheck_run _ _ _ _ _ b0 hb 
  · exact hg.elim

noncomputable def L_scheck : Sums cod := (5, .p s_scheck) :: L_nob
noncomputable def C_scheck : Cfg cod := mkC L_scheck

theorem L_scheck_ok : Snd Try.prog cod L_scheck := .cons scheck_sound L_nob_ok



def cuts_prm : Cuts := []

theorem prm_t0 (a : Int) (b : Int) : symF C_scheck cuts_prm Try.f43.results.toList 0 400 [.code (codeOf Try.f43)] ⟨argsS Try.f43 [.c (.int .i64 a), .c (.int .i64 b)], ([] : Heap cod)⟩ =
 cond (decide (a = 0)) (
 .ret (.fin (.c (.bool (decide (b = 1)))) [])) (
 cond (decide (a = 1)) (
  cond (decide (b = 2)) (
   .ret (.fin (.c (.bool true)) [])) (
   .ret (.fin (.c (.bool (decide (b = 3)))) []))) (
  cond (decide (a = 2)) (
   cond (decide (b = 1)) (
    .ret (.fin (.c (.bool true)) [])) (
    .ret (.fin (.c (.bool (decide (b = 3)))) []))) (
   .ret (.fin (.c (.bool false)) [])))) := by kernel_rfl



theorem prm_run (a : Int) (b : Int) (b0 : Base) (hb : b0.n = 0)  : Sym.Runs Try.prog b0 [.code (codeOf Try.f43)] ⟨argsS Try.f43 [.c (.int .i64 a), .c (.int .i64 b)], ([] : Heap cod)⟩ (Sym.Ends Try.prog Try.f43 0 (.c (.bool (F.prm a b))) []) := by
  refine Runs.go (cfg := C_scheck) L_scheck_ok mixed cuts_prm 400 hb (prm_t0 a b) ?_
  unfold F.prm
  simp only [T.wp, T.wp_cond, Aft, Int.ofNat_eq_natCast, decide_eq_true_eq, and_true, true_and, Nat.zero_add, Bool.not_eq_true', decide_eq_false_iff_not]
  by_cases h1 : a = 0 <;> by_cases h2 : a = 1 <;> by_cases h3 : a = 2 <;> by_cases h4 : b = 1 <;> by_cases h5 : b = 2 <;> by_cases h6 : b = 3 <;> simp_all



noncomputable def s_prm : Summ cod := fun args H => match args, H with
  | [.c (.int .i64 a), .c (.int .i64 b)], [] => .ret (.c (.bool (F.prm a b)), [])
  | _, _ => .fail


theorem prm_sound : Sound Try.prog cod 43 s_prm := sound_runs (cfg := C_scheck) L_scheck_ok mixed Try.func43 rfl rfl _ fun args H r news hg b0 hb => by
  unfold s_prm at hg
  split at hg
  · skip
    cases hg
    exact prm_run _ _ b0 hb 
  · exact hg.elim

noncomputable def L_prm : Sums cod := (43, .p s_prm) :: L_scheck
noncomputable def C_prm : Cfg cod := mkC L_prm

theorem L_prm_ok : Snd Try.prog cod L_prm := .cons prm_sound L_scheck_ok



def cuts_bget : Cuts := []

theorem bget_t0 (l : List (List UInt8 × List UInt8 × Int × Int × Int)) (l_t : Bool) (c : List UInt8) : symF C_prm cuts_bget Try.f18.results.toList 2 400 [.code (codeOf Try.f18)] ⟨argsS Try.f18 [.c (.ptr 0 0 0), .c (.str c)], ([.rblk [.slc 1 0 (List.length l) l_t], .inp 1 l] : Heap cod)⟩ =
.need (((0 = 0 ∧ List.length l = List.length l) ∧ List.length l ≤ 100000)) (
 cond (decide (F.idx l c < 0)) (
 .ret (.fin (.tup [.agg [.str [], .str [], .int .i64 0, .int .i64 0, .int .i64 0], .c (.int .i64 8)]) [])) (
 .need (((0 : Int) ≤ F.idx l c ∧ F.idx l c < Int.ofNat (List.length l))) (
 .need (0 + Int.toNat (F.idx l c) < List.length l) (
 .ret (.fin (.tup [.agg [.str ((List.getD l (0 + Int.toNat (F.idx l c)) (cod 1).d).1), .str ((List.getD l (0 + Int.toNat (F.idx l c)) (cod 1).d).2.1), .int .i64 ((List.getD l (0 + Int.toNat (F.idx l c)) (cod 1).d).2.2.1), .int .i64 ((List.getD l (0 + Int.toNat (F.idx l c)) (cod 1).d).2.2.2.1), .int .i64 ((List.getD l (0 + Int.toNat (F.idx l c)) (cod 1).d).2.2.2.2)], .c (.int .i64 0)]) []))))) := by kernel_rfl



theorem bget_run (l : List (List UInt8 × List UInt8 × Int × Int × Int)) (l_t : Bool) (c : List UInt8) (b0 : Base) (hb : b0.n = 2) (h0 : l.length ≤ 100000) : Sym.Runs Try.prog b0 [.code (codeOf Try.f18)] ⟨argsS Try.f18 [.c (.ptr 0 0 0), .c (.str c)], ([.rblk [.slc 1 0 (List.length l) l_t], .inp 1 l] : Heap cod)⟩ (Sym.Ends Try.prog Try.f18 2 (.tup [.agg [.str (F.gt1 l c), .str (F.gt2 l c), .int .i64 (F.gt3 l c), .int .i64 (F.gt4 l c), .int .i64 (F.gt5 l c)], .c (.int .i64 (F.gtE l c))]) []) := by
  refine Runs.go (cfg := C_prm) L_prm_ok mixed cuts_bget 400 hb (bget_t0 l l_t c) ?_
  have hlt := idx_lt l c
  simp only [T.wp, T.wp_cond, Aft, Int.ofNat_eq_natCast, decide_eq_true_eq, and_true, true_and, Nat.zero_add, Bool.not_eq_true', decide_eq_false_iff_not, Nat.zero_add]
  refine ⟨h0, ?_⟩
  unfold F.gt1 F.gt2 F.gt3 F.gt4 F.gt5 F.gt F.gtE
  by_cases hi : F.idx l c < 0
  · have hn : ¬ 0 ≤ F.idx l c := by omega
    rw [if_neg hn, if_neg hn]
    exact ite_yes hi rfl
  · have hn : 0 ≤ F.idx l c := by omega
    rw [if_pos hn, if_pos hn]
    exact ite_no hi ⟨⟨hn, hlt⟩, by omega, rfl⟩



noncomputable def s_bget : Summ cod := fun args H => match args, H with
  | [.c (.ptr 0 0 0), .c (.str c)], [.rblk [.slc 1 l_i l_n l_t], o1] => (match o1.asInp 1 with | some l => .need ((l_i = 0 ∧ l_n = List.length l) ∧ (l.length ≤ 100000)) (.ret (.tup [.agg [.str (F.gt1 l c), .str (F.gt2 l c), .int .i64 (F.gt3 l c), .int .i64 (F.gt4 l c), .int .i64 (F.gt5 l c)], .c (.int .i64 (F.gtE l c))], [])) | none => .fail)
  | _, _ => .fail


theorem bget_sound : Sound Try.prog cod 18 s_bget := sound_runs (cfg := C_prm) L_prm_ok mixed Try.func18 rfl rfl _ fun args H r news hg b0 hb => by
  unfold s_bget at hg
  split at hg
  · skip
    split at hg
    · rename_i l hx1
      cases asInp_spec hx1
      simp only [T.gives, T.wp, Prod.mk.injEq] at hg
      obtain ⟨⟨⟨rfl, rfl⟩, q1⟩, rfl, rfl⟩ := hg
      exact bget_run _ _ _ b0 hb (by assumption)
    · exact hg.elim
  · exact hg.elim

noncomputable def L_bget : Sums cod := (18, .p s_bget) :: L_prm
noncomputable def C_bget : Cfg cod := mkC L_bget

theorem L_bget_ok : Snd Try.prog cod L_bget := .cons bget_sound L_prm_ok


end
end Go.Proofs.Ytkfkfihjdohjfaa
