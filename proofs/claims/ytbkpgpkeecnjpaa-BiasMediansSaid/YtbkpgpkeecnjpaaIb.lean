/- Part of a claim: lemmas on the way to its theorem; each states its own conditions. -/
import Derived.Test.YtbkpgpkeecnjpaaHw
import Derived.Test.YtbkpgpkeecnjpaaMedP
namespace Go.Proofs.Ytbkpgpkeecnjpaa
open Sym Go.RowKit
noncomputable section
set_option maxRecDepth 100000
set_option maxHeartbeats 4000000



def cuts_mid : Cuts := [(2, [0, 10, 11, 12], 1), (6, [4, 16, 0, 10, 11, 12, 17, 18, 6, 5], 1)]

theorem mid_t0 (l : List Int) (l_t : Bool) : symF C_est cuts_mid Try.f28.results.toList 1 400 [.code (codeOf Try.f28)] ⟨argsS Try.f28 [.c (.slc 0 0 (List.length l) l_t)], ([.inp 0 l] : Heap cod)⟩ =
.ret (.cut (cutAt Try.f28 2) ⟨tmG 36 [(0, .c (.slc 0 0 (List.length l) l_t)), (9, .c (.slc 0 0 (List.length l) l_t)), (0, .c (.int .i64 (Int.ofNat (List.length l)))), (0, .c (.int .i64 0))], [.inp 0 l]⟩) := by kernel_rfl


noncomputable def st_mid_2 (l : List Int) (l_t : Bool) (i : Int) : St cod := ⟨tmG 36 [(0, .c (.slc 0 0 (List.length l) l_t)), (9, .c (.slc 0 0 (List.length l) l_t)), (0, .c (.int .i64 (Int.ofNat (List.length l)))), (0, .c (.int .i64 i))], [.inp 0 l]⟩


theorem mid_t2 (l : List Int) (l_t : Bool) (i : Int) : symF C_est cuts_mid Try.f28.results.toList 1 400 (cutAt Try.f28 2) (st_mid_2 l l_t i) =
 cond (decide (i < Int.ofNat (List.length l))) (
 .need (((0 : Int) ≤ i ∧ i < Int.ofNat (List.length l))) (
 .need (0 + Int.toNat i < List.length l) (
 .ret (.cut (cutAt Try.f28 6) ⟨tmG 30 [(0, .c (.slc 0 0 (List.length l) l_t)), (3, .c (.int .i64 (List.getD l (0 + Int.toNat i) (cod 0).d))), (0, .c (.int .i64 0)), (0, .c (.int .i64 0)), (3, .c (.slc 0 0 (List.length l) l_t)), (0, .c (.int .i64 (Int.ofNat (List.length l)))), (0, .c (.int .i64 i)), (3, .c (.slc 0 0 (List.length l) l_t)), (0, .c (.int .i64 (Int.ofNat (List.length l)))), (0, .c (.int .i64 0))], [.inp 0 l]⟩)))) (
 .ret (.fin (.c (.int .i64 0)) [])) := by kernel_rfl


noncomputable def st_mid_6 (l : List Int) (l_t : Bool) (i x j a b : Int) : St cod := ⟨tmG 30 [(0, .c (.slc 0 0 (List.length l) l_t)), (3, .c (.int .i64 x)), (0, .c (.int .i64 a)), (0, .c (.int .i64 b)), (3, .c (.slc 0 0 (List.length l) l_t)), (0, .c (.int .i64 (Int.ofNat (List.length l)))), (0, .c (.int .i64 i)), (3, .c (.slc 0 0 (List.length l) l_t)), (0, .c (.int .i64 (Int.ofNat (List.length l)))), (0, .c (.int .i64 j))], [.inp 0 l]⟩


theorem mid_t6 (l : List Int) (l_t : Bool) (i x j a b : Int) : symF C_est cuts_mid Try.f28.results.toList 1 400 (cutAt Try.f28 6) (st_mid_6 l l_t i x j a b) =
 cond (decide (j < Int.ofNat (List.length l))) (
 .need (((0 : Int) ≤ j ∧ j < Int.ofNat (List.length l))) (
 .need (0 + Int.toNat j < List.length l) (
 cond (decide (List.getD l (0 + Int.toNat j) (cod 0).d < x)) (
  .need (i64ok (a + 1)) (
  cond (decide (List.getD l (0 + Int.toNat j) (cod 0).d = x)) (
   .need (i64ok (b + 1)) (
   .need (i64ok (j + 1)) (
   .ret (.cut (cutAt Try.f28 6) ⟨tmG 30 [(0, .c (.slc 0 0 (List.length l) l_t)), (3, .c (.int .i64 x)), (0, .c (.int .i64 (a + 1))), (0, .c (.int .i64 (b + 1))), (3, .c (.slc 0 0 (List.length l) l_t)), (0, .c (.int .i64 (Int.ofNat (List.length l)))), (0, .c (.int .i64 i)), (3, .c (.slc 0 0 (List.length l) l_t)), (0, .c (.int .i64 (Int.ofNat (List.length l)))), (0, .c (.int .i64 (j + 1)))], [.inp 0 l]⟩)))) (
   .need (i64ok (j + 1)) (
   .ret (.cut (cutAt Try.f28 6) ⟨tmG 30 [(0, .c (.slc 0 0 (List.length l) l_t)), (3, .c (.int .i64 x)), (0, .c (.int .i64 (a + 1))), (0, .c (.int .i64 b)), (3, .c (.slc 0 0 (List.length l) l_t)), (0, .c (.int .i64 (Int.ofNat (List.length l)))), (0, .c (.int .i64 i)), (3, .c (.slc 0 0 (List.length l) l_t)), (0, .c (.int .i64 (Int.ofNat (List.length l)))), (0, .c (.int .i64 (j + 1)))], [.inp 0 l]⟩))))) (
  cond (decide (List.getD l (0 + Int.toNat j) (cod 0).d = x)) (
   .need (i64ok (b + 1)) (
   .need (i64ok (j + 1)) (
   .ret (.cut (cutAt Try.f28 6) ⟨tmG 30 [(0, .c (.slc 0 0 (List.length l) l_t)), (3, .c (.int .i64 x)), (0, .c (.int .i64 a)), (0, .c (.int .i64 (b + 1))), (3, .c (.slc 0 0 (List.length l) l_t)), (0, .c (.int .i64 (Int.ofNat (List.length l)))), (0, .c (.int .i64 i)), (3, .c (.slc 0 0 (List.length l) l_t)), (0, .c (.int .i64 (Int.ofNat (List.length l)))), (0, .c (.int .i64 (j + 1)))], [.inp 0 l]⟩)))) (
   .need (i64ok (j + 1)) (
   .ret (.cut (cutAt Try.f28 6) ⟨tmG 30 [(0, .c (.slc 0 0 (List.length l) l_t)), (3, .c (.int .i64 x)), (0, .c (.int .i64 a)), (0, .c (.int .i64 b)), (3, .c (.slc 0 0 (List.length l) l_t)), (0, .c (.int .i64 (Int.ofNat (List.length l)))), (0, .c (.int .i64 i)), (3, .c (.slc 0 0 (List.length l) l_t)), (0, .c (.int .i64 (Int.ofNat (List.length l)))), (0, .c (.int .i64 (j + 1)))], [.inp 0 l]⟩))))))) (
 .need (i64ok (Int.ofNat (List.length l) - 1)) (
 .need ((2 : Int) ≠ 0) (
 .need (i64ok (Int.tdiv (Int.ofNat (List.length l) - 1) 2)) (
 cond (decide (a ≤ Int.tdiv (Int.ofNat (List.length l) - 1) 2)) (
  .need (i64ok (a + b)) (
  cond (decide (Int.tdiv (Int.ofNat (List.length l) - 1) 2 < a + b)) (
   .ret (.fin (.c (.int .i64 x)) [])) (
   .need (i64ok (i + 1)) (
   .ret (.cut (cutAt Try.f28 2) ⟨tmG 36 [(0, .c (.slc 0 0 (List.length l) l_t)), (9, .c (.slc 0 0 (List.length l) l_t)), (0, .c (.int .i64 (Int.ofNat (List.length l)))), (0, .c (.int .i64 (i + 1)))], [.inp 0 l]⟩))))) (
  .need (i64ok (i + 1)) (
  .ret (.cut (cutAt Try.f28 2) ⟨tmG 36 [(0, .c (.slc 0 0 (List.length l) l_t)), (9, .c (.slc 0 0 (List.length l) l_t)), (0, .c (.int .i64 (Int.ofNat (List.length l)))), (0, .c (.int .i64 (i + 1)))], [.inp 0 l]⟩))))))) := by kernel_rfl



theorem nLess_cons (x y : Int) (r : List Int) : nLess x (y :: r) = nLess x r + (if y < x then 1 else 0) := by
  unfold nLess
  rw [List.countP_cons]
  simp
theorem nSame_cons (x y : Int) (r : List Int) : nSame x (y :: r) = nSame x r + (if y = x then 1 else 0) := by
  unfold nSame
  rw [List.countP_cons]
  simp
def F.gd (l : List Int) (x : Int) : Prop := nLess x l ≤ (l.length - 1) / 2 ∧ (l.length - 1) / 2 < nLess x l + nSame x l
theorem gd_med {l : List Int} {x : Int} (hp : 0 < l.length) (h : F.gd l x) : F.med l = x := by
  obtain ⟨h1, h2⟩ := h
  rw [← nLess_perm (sortI_perm l)] at h1 h2
  rw [← nSame_perm (sortI_perm l)] at h2
  exact sorted_kth (F.sortI l) _ x (sortI_sorted l) (by rw [sortI_len]; omega) h1 h2
theorem gd_has {l : List Int} (hp : 0 < l.length) : ∃ j, j < l.length ∧ F.gd l (l.getD j 0) := by
  have hk : (l.length - 1) / 2 < (F.sortI l).length := by rw [sortI_len]; omega
  obtain ⟨h1, h2⟩ := kth_has (F.sortI l) ((l.length - 1) / 2) (sortI_sorted l) hk
  have hm : (F.sortI l).getD ((l.length - 1) / 2) 0 ∈ l := by
    rw [← (sortI_perm l).mem_iff, List.getD, List.getElem?_eq_getElem hk]
    exact List.getElem_mem hk
  obtain ⟨j, hj, e⟩ := List.getElem_of_mem hm
  refine ⟨j, hj, ?_⟩
  have e2 : l.getD j 0 = (F.sortI l).getD ((l.length - 1) / 2) 0 := by
    rw [← e, List.getD, List.getElem?_eq_getElem hj]
    rfl
  rw [e2]
  rw [nLess_perm (sortI_perm l)] at h1 h2
  rw [nSame_perm (sortI_perm l)] at h2
  exact ⟨h1, h2⟩
theorem mid_l6 (l : List Int) (l_t : Bool) (b0 : Base) (hb : b0.n = 1) (hpos : 0 < l.length) (h1000 : l.length ≤ 1000) (i x : Int) (hi : 0 ≤ i ∧ i < l.length)
    (nx : ¬ F.gd l x → Sym.Runs Try.prog b0 (cutAt Try.f28 2) (st_mid_2 l l_t (i + 1)) (Sym.Ends Try.prog Try.f28 1 (.c (.int .i64 (F.med l))) [])) :
    ∀ (m : Nat) (j a b : Int), 0 ≤ j → j + m = l.length → 0 ≤ a → 0 ≤ b → a + nLess x (l.drop j.toNat) = nLess x l → b + nSame x (l.drop j.toNat) = nSame x l →
    Sym.Runs Try.prog b0 (cutAt Try.f28 6) (st_mid_6 l l_t i x j a b) (Sym.Ends Try.prog Try.f28 1 (.c (.int .i64 (F.med l))) []) := by
  have q1 : nLess x l ≤ l.length := List.countP_le_length
  have q2 : nSame x l ≤ l.length := List.countP_le_length
  have hi64 : i64ok (i + 1) := by unfold i64ok; omega
  intro m
  induction m with
  | zero =>
    intro j a b h0 hm ha hb' e1 e2
    rw [List.drop_eq_nil_of_le (by omega)] at e1 e2
    have z1 : nLess x [] = 0 := rfl
    have z2 : nSame x [] = 0 := rfl
    rw [z1] at e1
    rw [z2] at e2
    refine Runs.go (cfg := C_est) L_est_ok mixed cuts_mid 400 hb (mid_t6 l l_t i x j a b) ?_
    simp only [T.wp, T.wp_cond, Aft, decide_eq_true_eq]
    have ht : Int.tdiv (Int.ofNat l.length - 1) 2 = ((l.length - 1) / 2 : Nat) := by
      rw [Int.tdiv_eq_ediv_of_nonneg (by simp only [Int.ofNat_eq_natCast]; omega)]
      simp only [Int.ofNat_eq_natCast]
      omega
    rw [ht]
    refine ite_no (by simp only [Int.ofNat_eq_natCast]; omega) ⟨by unfold i64ok; simp only [Int.ofNat_eq_natCast]; omega, by decide, by unfold i64ok; omega, ?_⟩
    by_cases c1 : a ≤ ((l.length - 1) / 2 : Nat)
    · refine ite_yes c1 ⟨by unfold i64ok; omega, ?_⟩
      by_cases c2 : (((l.length - 1) / 2 : Nat) : Int) < a + b
      · refine ite_yes c2 ?_
        have hg : F.gd l x := ⟨by omega, by omega⟩
        rw [gd_med hpos hg]
        exact ⟨rfl, trivial⟩
      · exact ite_no c2 ⟨hi64, nx (fun hg => c2 (by have := hg.2; omega))⟩
    · exact ite_no c1 ⟨hi64, nx (fun hg => c1 (by have := hg.1; omega))⟩
  | succ m ih =>
    intro j a b h0 hm ha hb' e1 e2
    have j2 : j.toNat < l.length := by omega
    have hd : l.drop j.toNat = l.getD j.toNat 0 :: l.drop (j + 1).toNat := by
      rw [List.drop_eq_getElem_cons j2, List.getD, List.getElem?_eq_getElem j2, show (j + 1).toNat = j.toNat + 1 by omega]
      rfl
    rw [hd, nLess_cons] at e1
    rw [hd, nSame_cons] at e2
    have j64 : i64ok (j + 1) := by unfold i64ok; omega
    refine Runs.go (cfg := C_est) L_est_ok mixed cuts_mid 400 hb (mid_t6 l l_t i x j a b) ?_
    simp only [T.wp, T.wp_cond, Aft, decide_eq_true_eq, Nat.zero_add]
    refine ite_yes (by simp only [Int.ofNat_eq_natCast]; omega) ⟨by simp only [Int.ofNat_eq_natCast]; omega, j2, ?_⟩
    by_cases c1 : l.getD j.toNat 0 < x
    · rw [if_pos c1] at e1
      have c2 : ¬ l.getD j.toNat 0 = x := by omega
      rw [if_neg c2] at e2
      have nx1 := ih (j + 1) (a + 1) b (by omega) (by omega) (by omega) hb' (by omega) (by omega)
      exact ite_yes c1 ⟨by unfold i64ok; omega, ite_no c2 ⟨j64, nx1⟩⟩
    · rw [if_neg c1] at e1
      refine ite_no c1 ?_
      by_cases c2 : l.getD j.toNat 0 = x
      · rw [if_pos c2] at e2
        have nx1 := ih (j + 1) a (b + 1) (by omega) (by omega) ha (by omega) (by omega) (by omega)
        exact ite_yes c2 ⟨by unfold i64ok; omega, j64, nx1⟩
      · rw [if_neg c2] at e2
        have nx1 := ih (j + 1) a b (by omega) (by omega) ha hb' (by omega) (by omega)
        exact ite_no c2 ⟨j64, nx1⟩
theorem mid_l2 (l : List Int) (l_t : Bool) (b0 : Base) (hb : b0.n = 1) (hpos : 0 < l.length) (h1000 : l.length ≤ 1000) :
    ∀ (m : Nat) (i : Int), 0 ≤ i → i + m = l.length → (∀ j, j < i.toNat → ¬ F.gd l (l.getD j 0)) →
    Sym.Runs Try.prog b0 (cutAt Try.f28 2) (st_mid_2 l l_t i) (Sym.Ends Try.prog Try.f28 1 (.c (.int .i64 (F.med l))) []) := by
  intro m
  induction m with
  | zero =>
    intro i h0 hm hn
    obtain ⟨j, hj, hg⟩ := gd_has hpos
    exact absurd hg (hn j (by omega))
  | succ m ih =>
    intro i h0 hm hn
    refine Runs.go (cfg := C_est) L_est_ok mixed cuts_mid 400 hb (mid_t2 l l_t i) ?_
    simp only [T.wp, T.wp_cond, Aft, decide_eq_true_eq, Nat.zero_add]
    refine ite_yes (by simp only [Int.ofNat_eq_natCast]; omega) ⟨by simp only [Int.ofNat_eq_natCast]; omega, by omega, ?_⟩
    have nx := mid_l6 l l_t b0 hb hpos h1000 i (l.getD i.toNat 0) (by omega) (fun hg => ih (i + 1) (by omega) (by omega) (fun j hj => by
      by_cases e : j = i.toNat
      · rw [e]; exact hg
      · exact hn j (by omega))) l.length 0 0 0 (by omega) (by omega) (by omega) (by omega) (by simp) (by simp)
    exact nx
theorem mid_run (l : List Int) (l_t : Bool) (b0 : Base) (hb : b0.n = 1) (h0 : 0 < List.length l) (h1 : List.length l ≤ 1000) : Sym.Runs Try.prog b0 [.code (codeOf Try.f28)] ⟨argsS Try.f28 [.c (.slc 0 0 (List.length l) l_t)], ([.inp 0 l] : Heap cod)⟩ (Sym.Ends Try.prog Try.f28 1 (.c (.int .i64 (F.med l))) []) := by
  refine Runs.go (cfg := C_est) L_est_ok mixed cuts_mid 400 hb (mid_t0 l l_t) ?_
  simp only [T.wp, T.wp_cond, Aft]
  have nx := mid_l2 l l_t b0 hb h0 h1 l.length 0 (by omega) (by omega) (fun j hj => absurd hj (by omega))
  exact nx



noncomputable def s_mid : Summ cod := fun args H => match args, H with
  | [.c (.slc 0 l_i l_n l_t)], [o0] => (match o0.asInp 0 with | some l => .need ((l_i = 0 ∧ l_n = List.length l) ∧ (0 < List.length l) ∧ (List.length l ≤ 1000)) (.ret (.c (.int .i64 (F.med l)), [])) | none => .fail)
  | _, _ => .fail


theorem mid_sound : Sound Try.prog cod 28 s_mid := sound_runs (cfg := C_est) L_est_ok mixed Try.func28 rfl rfl _ fun args H r news hg b0 hb => by
  unfold s_mid at hg
  split at hg
  · skip
    split at hg
    · rename_i l hx0
      cases asInp_spec hx0
      simp only [T.gives, T.wp, Prod.mk.injEq] at hg
      obtain ⟨⟨⟨rfl, rfl⟩, q1, q2⟩, rfl, rfl⟩ := hg
      exact mid_run _ _ b0 hb (by assumption) (by assumption)
    · exact hg.elim
  · exact hg.elim

noncomputable def L_mid : Sums cod := (28, .p s_mid) :: L_est
noncomputable def C_mid : Cfg cod := mkC L_mid

theorem L_mid_ok : Snd Try.prog cod L_mid := .cons mid_sound L_est_ok


end
end Go.Proofs.Ytbkpgpkeecnjpaa
