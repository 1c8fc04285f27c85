/- Part of a claim: lemmas on the way to its theorem; each states its own conditions. -/
import Derived.Test.YtjffboggpofbfaaZb
namespace Go.Proofs.Ytjffboggpofbfaa
open Sym Go.RowKit
noncomputable section
set_option maxRecDepth 100000
set_option maxHeartbeats 4000000



namespace F
def rowsOk (L : List (List Int)) (tk : List Bool) : Prop := ∀ r ∈ L, r.length = tk.length
end F


def cuts_cost : Cuts := [(100005, [1, 0, 5, 4], 7)]
def cuts_cost_r5 : Cuts := []
def cuts_cost_r5b : Cuts := []

theorem cost_t0 (i : Int) (k : Int) (cols : Int) (ms : Int) (tk : List Bool) (tk_t : Bool) (L : List (List Int)) (L_t : Bool) (L_i L_n : Nat) : symF C_wid cuts_cost Try.f13.results.toList 6 400 [.code (codeOf Try.f13)] ⟨argsS Try.f13 [.c (.int .i64 i), .c (.int .i64 k), .c (.ptr 0 0 0), .c (.ptr 1 0 0), .c (.ptr 2 0 0), .c (.ptr 3 0 0)], ([.rblk [.int .i64 cols], .rblk [.int .i64 ms], .rblk [.slc 4 0 (List.length tk) tk_t], .rblk [.slc 5 L_i L_n L_t], .inp 4 tk, .nin 0 L none] : Heap cod)⟩ =
 cond (decide (cols ≤ k)) (
 .need (i64ok (k - cols)) (
 cond (decide (k - cols = i)) (
  .ret (.fin (.c (.int .i64 ms)) [])) (
  .ret (.fin (.c (.int .i64 36028797018963968)) [])))) (
 .ret (.cut (regAt Try.f13 5) ⟨tmG 35 [(0, .c (.int .i64 i)), (0, .c (.int .i64 k)), (2, .c (.ptr 2 0 0)), (0, .c (.ptr 3 0 0))], [.rblk [.int .i64 cols], .rblk [.int .i64 ms], .rblk [.slc 4 0 (List.length tk) tk_t], .rblk [.slc 5 (L_i) (L_n) L_t], .inp 4 tk, .nin 0 (L) none]⟩)) := by kernel_rfl


noncomputable def st_cost_r5 (i : Int) (k : Int) (cols : Int) (ms : Int) (tk : List Bool) (tk_t : Bool) (L : List (List Int)) (L_t : Bool) (L_i L_n : Nat)  : St cod := ⟨tmG 35 [(0, .c (.int .i64 i)), (0, .c (.int .i64 k)), (2, .c (.ptr 2 0 0)), (0, .c (.ptr 3 0 0))], [.rblk [.int .i64 cols], .rblk [.int .i64 ms], .rblk [.slc 4 0 (List.length tk) tk_t], .rblk [.slc 5 (L_i) (L_n) L_t], .inp 4 tk, .nin 0 (L) none]⟩


noncomputable def st_cost_r5b (i : Int) (k : Int) (cols : Int) (ms : Int) (tk : List Bool) (tk_t : Bool) (L : List (List Int)) (L_t : Bool) (L_i L_n : Nat) (j : Nat) (q : List Int) : St cod := ⟨tmG 35 [(0, .c (.int .i64 i)), (0, .c (.int .i64 k)), (2, .c (.ptr 2 0 0)), (0, .c (.ptr 3 0 0))], ([.rblk [.int .i64 cols], .rblk [.int .i64 ms], .rblk [.slc 4 0 (List.length tk) tk_t], .rblk [.slc 5 L_i L_n L_t], .inp 4 tk, .nin 0 L (some (j, .slc 6 0 (List.length q) false)), .inp 0 q] : Heap cod)⟩


theorem cost_tr5b (i : Int) (k : Int) (cols : Int) (ms : Int) (tk : List Bool) (tk_t : Bool) (L : List (List Int)) (L_t : Bool) (L_i L_n : Nat) (j : Nat) (q : List Int) : symF C_wid cuts_cost_r5b Try.f13.results.toList 6 400 (regAt Try.f13 5) (st_cost_r5b i k cols ms tk tk_t L L_t L_i L_n j q) =
.need (((0 : Int) ≤ k ∧ k < Int.ofNat (List.length tk))) (
.need (0 + Int.toNat k < List.length tk) (
 cond (List.getD tk (0 + Int.toNat k) (cod 4).d) (
 .ret (.fin (.c (.int .i64 36028797018963968)) [])) (
 .need (((0 : Int) ≤ i ∧ i < Int.ofNat L_n)) (
 .need ((L_i + Int.toNat i = j ∧ j < List.length L)) (
 .need (((0 : Int) ≤ k ∧ k < Int.ofNat (List.length q))) (
 .need (0 + Int.toNat k < List.length q) (
 cond (decide (List.getD q (0 + Int.toNat k) (cod 0).d < 0)) (
  .ret (.fin (.c (.int .i64 36028797018963968)) [])) (
  .need (((0 : Int) ≤ i ∧ i < Int.ofNat L_n)) (
  .need ((L_i + Int.toNat i = j ∧ j < List.length L)) (
  .need (((0 : Int) ≤ k ∧ k < Int.ofNat (List.length q))) (
  .need (0 + Int.toNat k < List.length q) (
  .ret (.fin (.c (.int .i64 (List.getD q (0 + Int.toNat k) (cod 0).d))) []))))))))))))) := by kernel_rfl



theorem part_get {α : Type} (l : List α) (d : α) (i n k : Nat) (hk : k < n) : ((l.drop i).take n).getD k d = l.getD (i + k) d := by
  rw [List.getD_eq_getElem?_getD, List.getElem?_take_of_lt hk, List.getElem?_drop, List.getD_eq_getElem?_getD]
theorem cost_run (i : Int) (k : Int) (cols : Int) (ms : Int) (tk : List Bool) (tk_t : Bool) (L : List (List Int)) (L_t : Bool) (L_i L_n : Nat) (b0 : Base) (hb : b0.n = 6) (h0 : L_i + L_n ≤ List.length L) (h1 : cols = (List.length tk : Int) ∧ List.length tk ≤ 32) (h2 : 0 ≤ k ∧ k ≤ 100) (h3 : 0 ≤ i ∧ i < (L_n : Int) ∧ L_n ≤ 32) (h4 : F.rowsOk L tk) : Sym.Runs Try.prog b0 [.code (codeOf Try.f13)] ⟨argsS Try.f13 [.c (.int .i64 i), .c (.int .i64 k), .c (.ptr 0 0 0), .c (.ptr 1 0 0), .c (.ptr 2 0 0), .c (.ptr 3 0 0)], ([.rblk [.int .i64 cols], .rblk [.int .i64 ms], .rblk [.slc 4 0 (List.length tk) tk_t], .rblk [.slc 5 L_i L_n L_t], .inp 4 tk, .nin 0 L none] : Heap cod)⟩ (Sym.Ends Try.prog Try.f13 6 (.c (.int .i64 (F.cst ((L.drop L_i).take L_n) tk.length ms tk i.toNat k.toNat))) []) := by
  refine Runs.go (cfg := C_wid) L_wid_ok mixed cuts_cost 400 hb (cost_t0 i k cols ms tk tk_t L L_t L_i L_n) ?_
  obtain ⟨rfl, h1⟩ := h1
  have e0 : (cod 0).d = (0 : Int) := rfl
  have e4 : (cod 4).d = false := rfl
  unfold F.cst
  by_cases c : tk.length ≤ k.toNat
  · rw [if_pos c]
    simp only [T.wp, T.wp_cond, Aft, decide_eq_true_eq, and_true]
    refine ite_yes (by omega) ⟨by unfold i64ok; omega, ?_⟩
    by_cases c2 : k.toNat - tk.length = i.toNat
    · rw [if_pos c2]
      exact ite_yes (by omega) (by first | rfl | trivial)
    · rw [if_neg c2]
      exact ite_no (by omega) (by first | rfl | trivial)
  · rw [if_neg c]
    simp only [T.wp, T.wp_cond, Aft, decide_eq_true_eq, and_true]
    refine ite_no (by omega) ?_
    have hil : L_i + i.toNat < L.length := by omega
    have hql : (L.getD (L_i + i.toNat) []).length = tk.length := h4 _ (F.getD_mem hil)
    rw [part_get L [] L_i L_n i.toNat (by omega)]
    refine Runs.open 5 (L_i + i.toNat) rfl hil rfl ?_
    refine Runs.weaken (st' := st_cost_r5b i k (tk.length : Int) ms tk tk_t L L_t L_i L_n (L_i + i.toNat) (L.getD (L_i + i.toNat) [])) (fun a w hR => hR) ?_
    generalize L.getD (L_i + i.toNat) [] = q at *
    generalize hV : (if tk.getD k.toNat false = true ∨ q.getD k.toNat 0 < 0 then (36028797018963968 : Int) else q.getD k.toNat 0) = V
    refine Runs.go (cfg := C_wid) L_wid_ok mixed cuts_cost_r5b 400 hb (cost_tr5b i k (tk.length : Int) ms tk tk_t L L_t L_i L_n (L_i + i.toNat) q) ?_
    simp only [T.wp, T.wp_cond, Aft, Int.ofNat_eq_natCast, decide_eq_true_eq, and_true, true_and, Nat.zero_add, e0, e4]
    refine ⟨⟨by omega, by omega⟩, by omega, ?_⟩
    have zi : (0 : Int) ≤ i ∧ i < (L_n : Int) := ⟨by omega, by omega⟩
    have zk : (0 : Int) ≤ k ∧ k < (q.length : Int) := ⟨by omega, by omega⟩
    have zq : k.toNat < q.length := by omega
    by_cases g : tk.getD k.toNat false = true
    · rw [if_pos (.inl g)] at hV
      subst hV
      exact ite_yes g (by first | rfl | trivial)
    · refine ite_no g ⟨zi, hil, zk, zq, ?_⟩
      by_cases g2 : q.getD k.toNat 0 < 0
      · rw [if_pos (.inr g2)] at hV
        subst hV
        exact ite_yes g2 (by first | rfl | trivial)
      · rw [if_neg (by rintro (h | h); exact g h; exact g2 h)] at hV
        subst hV
        exact ite_no g2 ⟨zi, hil, zk, zq, by first | rfl | trivial⟩



noncomputable def s_cost : Summ cod := fun args H => match args, H with
  | [.c (.int .i64 i), .c (.int .i64 k), .c (.ptr 0 0 0), .c (.ptr 1 0 0), .c (.ptr 2 0 0), .c (.ptr 3 0 0)], [.rblk [.int .i64 cols], .rblk [.int .i64 ms], .rblk [.slc 4 tk_i tk_n tk_t], .rblk [.slc 5 L_i L_n L_t], o4, o5] => (match o4.asInp 4 with | some tk => (match o5.asNin 0 with | some L => .need ((tk_i = 0 ∧ tk_n = List.length tk) ∧ (L_i + L_n ≤ List.length L) ∧ (cols = (List.length tk : Int) ∧ List.length tk ≤ 32) ∧ (0 ≤ k ∧ k ≤ 100) ∧ (0 ≤ i ∧ i < (L_n : Int) ∧ L_n ≤ 32) ∧ (F.rowsOk L tk)) (.ret (.c (.int .i64 (F.cst ((L.drop L_i).take L_n) tk.length ms tk i.toNat k.toNat)), [])) | none => .fail) | none => .fail)
  | _, _ => .fail


theorem cost_sound : Sound Try.prog cod 13 s_cost := sound_runs (cfg := C_wid) L_wid_ok mixed Try.func13 rfl rfl _ fun args H r news hg b0 hb => by
  unfold s_cost at hg
  split at hg
  · skip
    split at hg
    · rename_i tk hx4
      cases asInp_spec hx4
      split at hg
      · rename_i L hx5
        cases asNin_spec hx5
        simp only [T.gives, T.wp, Prod.mk.injEq] at hg
        obtain ⟨⟨⟨rfl, rfl⟩, q1, q2, q3, q4, q5⟩, rfl, rfl⟩ := hg
        exact cost_run _ _ _ _ _ _ _ _ _ _ b0 hb (by assumption) (by assumption) (by assumption) (by assumption) (by assumption)
      · exact hg.elim
    · exact hg.elim
  · exact hg.elim

noncomputable def L_cost : Sums cod := (13, .p s_cost) :: L_wid
noncomputable def C_cost : Cfg cod := mkC L_cost

theorem L_cost_ok : Snd Try.prog cod L_cost := .cons cost_sound L_wid_ok


end
end Go.Proofs.Ytjffboggpofbfaa
