/- Part of a claim: lemmas on the way to its theorem; each states its own conditions. -/
import Derived.Test.YtgmnfdmlidhbcaaKb
import Derived.Test.YtgmnfdmlidhbcaaSym34
import Derived.Test.YtgmnfdmlidhbcaaBd29
import Derived.Test.YtgmnfdmlidhbcaaBd33
namespace Go.Proofs.Ytgmnfdmlidhbcaa
open Sym Go.RowKit
noncomputable section
set_option maxRecDepth 100000
set_option maxHeartbeats 4000000



def cuts_clone : Cuts := []

theorem clone_t0 (l : List Int) (l_t : Bool) (l_i l_n : Nat) : symF C_everr cuts_clone Try.f41.results.toList 1 400 [.code (codeOf Try.f41)] ⟨argsS Try.f41 [.c (.slc 0 l_i l_n l_t)], ([.inp 0 l] : Heap cod)⟩ =
.need ((0 : Nat) < l_n) (
.need (List.length (List.take l_n (List.drop l_i l)) = l_n) (
.need (0 = 0) (
.need (((0 : Nat) < List.length (List.take l_n (List.drop l_i l)) ∧ 0 + List.length (List.take l_n (List.drop l_i l)) ≤ 1000000)) (
.ret (.fin (.c (.own 1 (0 + List.length (List.take l_n (List.drop l_i l))))) [.own 0 ([] ++ (List.take l_n (List.drop l_i l))) 3]))))) := by kernel_rfl



theorem clone_run (l : List Int) (l_t : Bool) (l_i l_n : Nat) (b0 : Base) (hb : b0.n = 1) (h0 : l_i + l_n ≤ List.length l) (h1 : 0 < l_n) (h2 : l_n ≤ 1000000) : Sym.Runs Try.prog b0 [.code (codeOf Try.f41)] ⟨argsS Try.f41 [.c (.slc 0 l_i l_n l_t)], ([.inp 0 l] : Heap cod)⟩ (Sym.Ends Try.prog Try.f41 1 (.c (.own 1 l_n)) [.own 0 ((l.drop l_i).take l_n) 3]) := by
  refine Runs.go (cfg := C_everr) L_everr_ok mixed cuts_clone 400 hb (clone_t0 l l_t l_i l_n) ?_
  have e : (List.take l_n (List.drop l_i l)).length = l_n := by rw [List.length_take, List.length_drop]; omega
  simp only [T.wp, T.wp_cond, Aft, Int.ofNat_eq_natCast, decide_eq_true_eq, and_true, true_and, Nat.zero_add, Bool.not_eq_true', decide_eq_false_iff_not, e, List.nil_append]
  refine ⟨h1, ⟨h1, h2⟩, ?_⟩
  simp [e]
  rfl



noncomputable def s_clone : Summ cod := fun args H => match args, H with
  | [.c (.slc 0 l_i l_n l_t)], [o0] => (match o0.asInp 0 with | some l => .need ((l_i + l_n ≤ List.length l) ∧ (0 < l_n) ∧ (l_n ≤ 1000000)) (.ret (.c (.own 1 l_n), [.own 0 ((l.drop l_i).take l_n) 3])) | none => .fail)
  | _, _ => .fail


theorem clone_sound : Sound Try.prog cod 41 s_clone := sound_runs (cfg := C_everr) L_everr_ok mixed Try.func41 rfl rfl _ fun args H r news hg b0 hb => by
  unfold s_clone at hg
  split at hg
  · skip
    split at hg
    · rename_i l hx0
      cases asInp_spec hx0
      simp only [T.gives, T.wp, Prod.mk.injEq] at hg
      obtain ⟨⟨q0, q1, q2⟩, rfl, rfl⟩ := hg
      exact clone_run _ _ _ _ b0 hb (by assumption) (by assumption) (by assumption)
    · exact hg.elim
  · exact hg.elim

noncomputable def L_clone : Sums cod := (41, .p s_clone) :: L_everr
noncomputable def C_clone : Cfg cod := mkC L_clone

theorem L_clone_ok : Snd Try.prog cod L_clone := .cons clone_sound L_everr_ok



namespace F
def lamV (l : List Ev) (la out : List Int) (i : Nat) : Int :=
  (if (l.getD i ev0).2.1 = 2 then max (la.getD (l.getD i ev0).1.toNat 0) (out.getD (snt (l.take i) (l.getD i ev0).2.2).toNat 0) else la.getD (l.getD i ev0).1.toNat 0) + 1
def lamG (l : List Ev) : Nat → List Int × List Int
  | 0 => (List.replicate 8 0, [])
  | n + 1 => ((lamG l n).1.set (l.getD n ev0).1.toNat (lamV l (lamG l n).1 (lamG l n).2 n), (lamG l n).2 ++ [lamV l (lamG l n).1 (lamG l n).2 n])
def lam (l : List Ev) : List Int := if chk l = 0 then (lamG l l.length).2 else []
end F


namespace F
theorem chkG_ok (l : List Ev) : ∀ (n i : Nat), chkG l n i = 0 → ∀ j, i ≤ j → j < i + n → chkE l j = 0
  | 0, i, _, j, h1, h2 => by omega
  | n + 1, i, h, j, h1, h2 => by
      unfold chkG at h
      by_cases e : chkE l i = 0
      · rw [if_pos e] at h
        by_cases q : j = i
        · rw [q]; exact e
        · exact chkG_ok l n (i + 1) h j (by omega) (by omega)
      · rw [if_neg e] at h
        exact absurd h e
theorem chk_ok {l : List Ev} (h : chk l = 0) : l.length ≤ 200 ∧ ∀ i, i < l.length → chkE l i = 0 := by
  unfold chk at h
  split at h
  · cases h
  · exact ⟨by omega, fun i hi => chkG_ok l _ _ h i (by omega) (by omega)⟩
theorem chkE_ok {l : List Ev} {i : Nat} (h : chkE l i = 0) : (0 ≤ (l.getD i ev0).1 ∧ (l.getD i ev0).1 < 8) ∧ (0 ≤ (l.getD i ev0).2.1 ∧ (l.getD i ev0).2.1 ≤ 2) ∧
    ((l.getD i ev0).2.1 = 1 → snt (l.take i) (l.getD i ev0).2.2 < 0) ∧ ((l.getD i ev0).2.1 = 2 → 0 ≤ snt (l.take i) (l.getD i ev0).2.2) := by
  unfold chkE at h
  simp only [Bool.or_eq_true, decide_eq_true_iff] at h
  generalize l.getD i ev0 = p at *
  generalize snt (l.take i) p.2.2 = q at *
  split at h
  · omega
  split at h
  · omega
  split at h
  · omega
  split at h
  · omega
  refine ⟨by omega, by omega, fun e => by omega, fun e => by omega⟩
theorem sntG_lt (m : Int) : ∀ (l : List Ev) (i : Int), sntG m l i = -1 ∨ (i ≤ sntG m l i ∧ sntG m l i < i + l.length)
  | [], i => .inl rfl
  | x :: r, i => by
      unfold sntG
      by_cases e : isS m x = true
      · rw [if_pos e]
        exact .inr ⟨by omega, by simp only [List.length_cons]; omega⟩
      · rw [if_neg e]
        rcases sntG_lt m r (i + 1) with h | h
        · exact .inl h
        · exact .inr ⟨by omega, by simp only [List.length_cons]; omega⟩
theorem snt_lt {m : Int} {l : List Ev} (h : 0 ≤ snt l m) : snt l m < l.length := by
  rcases sntG_lt m l 0 with q | q
  · unfold snt at h
    omega
  · unfold snt
    omega
theorem gset {α : Type} (l : List α) (i : Nat) (v d : α) (k : Nat) : (l.set i v).getD k d = if i = k ∧ i < l.length then v else l.getD k d := by
  rw [List.getD_eq_getElem?_getD, List.getElem?_set, List.getD_eq_getElem?_getD]
  by_cases e : i = k
  · subst e
    by_cases h : i < l.length
    · simp [h]
    · simp [h]
  · simp [e]
theorem gapp {α : Type} (l : List α) (v d : α) (k : Nat) : (l ++ [v]).getD k d = if k = l.length then v else l.getD k d := by
  rw [List.getD_eq_getElem?_getD, List.getD_eq_getElem?_getD]
  by_cases e : k < l.length
  · rw [List.getElem?_append_left e, if_neg (by omega)]
  · by_cases q : k = l.length
    · subst q; simp
    · rw [if_neg q, List.getElem?_eq_none (by simp; omega), List.getElem?_eq_none (by omega)]
theorem lam_bound (l : List Ev) : ∀ n : Nat, (lamG l n).1.length = 8 ∧ (lamG l n).2.length = n ∧ (∀ k, 0 ≤ (lamG l n).1.getD k 0 ∧ (lamG l n).1.getD k 0 ≤ n) ∧ (∀ k, 0 ≤ (lamG l n).2.getD k 0 ∧ (lamG l n).2.getD k 0 ≤ n)
  | 0 => by
      refine ⟨rfl, rfl, fun k => ?_, fun k => ?_⟩
      · have e : (lamG l 0).1.getD k 0 = 0 := by
          show (List.replicate 8 (0 : Int)).getD k 0 = 0
          rw [List.getD_eq_getElem?_getD, List.getElem?_replicate]
          split <;> rfl
        rw [e]
        exact ⟨Int.le_refl _, Int.le_refl _⟩
      · have e : (lamG l 0).2.getD k 0 = 0 := rfl
        rw [e]
        exact ⟨Int.le_refl _, Int.le_refl _⟩
  | n + 1 => by
      obtain ⟨h1, h2, h3, h4⟩ := lam_bound l n
      have hv : 0 ≤ lamV l (lamG l n).1 (lamG l n).2 n ∧ lamV l (lamG l n).1 (lamG l n).2 n ≤ n + 1 := by
        unfold lamV
        have a := h3 (l.getD n ev0).1.toNat
        have b := h4 (snt (l.take n) (l.getD n ev0).2.2).toNat
        split
        · omega
        · omega
      have e1 : (lamG l (n + 1)).1 = (lamG l n).1.set (l.getD n ev0).1.toNat (lamV l (lamG l n).1 (lamG l n).2 n) := rfl
      have e2 : (lamG l (n + 1)).2 = (lamG l n).2 ++ [lamV l (lamG l n).1 (lamG l n).2 n] := rfl
      rw [e1, e2]
      generalize lamV l (lamG l n).1 (lamG l n).2 n = v at *
      refine ⟨by simp [h1], by simp [h2], fun k => ?_, fun k => ?_⟩
      · rw [gset]
        have a := h3 k
        split
        · omega
        · omega
      · rw [gapp]
        have a := h4 k
        split
        · omega
        · omega
end F


def cuts_lam : Cuts := [(7, [5, 0, 15, 16, 17, 6], 4)]

theorem lam_t0 (l : List (Int × Int × Int)) (l_t : Bool) : symF C_clone cuts_lam Try.f7.results.toList 1 400 [.code (codeOf Try.f7)] ⟨argsS Try.f7 [.c (.slc 0 0 (List.length l) l_t)], ([.inp 1 l] : Heap cod)⟩ =
.need (((0 = 0 ∧ List.length l = List.length l) ∧ List.length l ≤ 1000000)) (
 cond (!decide (F.chk l = 0)) (
 .ret (.fin (.tup [.c (.own 1 0), .c (.int .i64 (F.chk l))]) [.own 0 [] 3])) (
 .ret (.cut (cutAt Try.f7 7) ⟨tmG 34 [(0, .c (.slc 0 0 (List.length l) l_t)), (4, .c (.ptr 2 0 0)), (0, .c (.own 3 0)), (8, .c (.slc 0 0 (List.length l) l_t)), (0, .c (.int .i64 (Int.ofNat (List.length l)))), (0, .c (.int .i64 0))], [.inp 1 l, .own 0 [] 3, .arr 0 ([0, 0, 0, 0, 0, 0, 0, 0] : List Int) 34, .own 0 [] 3]⟩))) := by kernel_rfl


noncomputable def st_lam_7 (l : List (Int × Int × Int)) (l_t : Bool) (i : Int) (la ts : List Int) : St cod := ⟨tmG 34 [(0, .c (.slc 0 0 (List.length l) l_t)), (4, .c (.ptr 2 0 0)), (0, .c (.own 3 (List.length ts))), (8, .c (.slc 0 0 (List.length l) l_t)), (0, .c (.int .i64 (Int.ofNat (List.length l)))), (0, .c (.int .i64 i))], ([.inp 1 l, .own 0 [] 3, .arr 0 la 34, .own 0 ts 3] : Heap cod)⟩


theorem lam_t7 (l : List (Int × Int × Int)) (l_t : Bool) (i : Int) (la ts : List Int) : symF C_clone cuts_lam Try.f7.results.toList 1 400 (cutAt Try.f7 7) (st_lam_7 l l_t i la ts) =
 cond (decide (i < Int.ofNat (List.length l))) (
 .need (((0 : Int) ≤ i ∧ i < Int.ofNat (List.length l))) (
 .need (0 + Int.toNat i < List.length l) (
 .need (((0 : Int) ≤ (List.getD l (0 + Int.toNat i) (cod 1).d).1 ∧ (List.getD l (0 + Int.toNat i) (cod 1).d).1 < Int.ofNat 8)) (
 .need (0 + Int.toNat (List.getD l (0 + Int.toNat i) (cod 1).d).1 < List.length la) (
 cond (decide ((List.getD l (0 + Int.toNat i) (cod 1).d).2.1 = 2)) (
  .need (((0 : Int) ≤ i ∧ i ≤ Int.ofNat (List.length l))) (
  .need ((0 + Int.toNat i ≤ List.length l ∧ Int.toNat i ≤ 1000000)) (
  .need (((0 : Int) ≤ F.snt (List.take (Int.toNat i) (List.drop 0 l)) (List.getD l (0 + Int.toNat i) (cod 1).d).2.2 ∧ F.snt (List.take (Int.toNat i) (List.drop 0 l)) (List.getD l (0 + Int.toNat i) (cod 1).d).2.2 <   Int.ofNat (List.length ts))) (
  .need (0 + Int.toNat (F.snt (List.take (Int.toNat i) (List.drop 0 l)) (List.getD l (0 + Int.toNat i) (cod 1).d).2.2) <   List.length ts) (
  .need (i64ok   (max (List.getD la (0 + Int.toNat (List.getD l (0 + Int.toNat i) (cod 1).d).1) (cod 0).d)       (List.getD ts         (0 + Int.toNat (F.snt (List.take (Int.toNat i) (List.drop 0 l)) (List.getD l (0 + Int.toNat i) (cod 1).d).2.2))         (cod 0).d) +     1)) (
  .need (((0 : Int) ≤ (List.getD l (0 + Int.toNat i) (cod 1).d).1 ∧ (List.getD l (0 + Int.toNat i) (cod 1).d).1 < Int.ofNat 8)) (
  .need (0 + Int.toNat (List.getD l (0 + Int.toNat i) (cod 1).d).1 < List.length la) (
  .need (i64ok   (max (List.getD la (0 + Int.toNat (List.getD l (0 + Int.toNat i) (cod 1).d).1) (cod 0).d)       (List.getD ts         (0 + Int.toNat (F.snt (List.take (Int.toNat i) (List.drop 0 l)) (List.getD l (0 + Int.toNat i) (cod 1).d).2.2))         (cod 0).d) +     1)) (
  .need (1 = 1) (
  .need (List.length ts + 1 ≤ 1000000) (
  .need (i64ok (i + 1)) (
  .ret (.cut (cutAt Try.f7 7) ⟨tmG 34 [(0, .c (.slc 0 0 (List.length l) l_t)), (4, .c (.ptr 2 0 0)), (0, .c (.own 3 (List.length ts + 1))), (8, .c (.slc 0 0 (List.length l) l_t)), (0, .c (.int .i64 (Int.ofNat (List.length l)))), (0, .c (.int .i64 (i + 1)))], [.inp 1 l, .own 0 [] 3, .arr 0 (List.set la (0 + Int.toNat (List.getD l (0 + Int.toNat i) (cod 1).d).1)   (max (List.getD la (0 + Int.toNat (List.getD l (0 + Int.toNat i) (cod 1).d).1) (cod 0).d)       (List.getD ts         (0 + Int.toNat (F.snt (List.take (Int.toNat i) (List.drop 0 l)) (List.getD l (0 + Int.toNat i) (cod 1).d).2.2))         (cod 0).d) +     1)) 34, .own 0 (ts ++ ([max (List.getD la (0 + Int.toNat (List.getD l (0 + Int.toNat i) (cod 1).d).1) (cod 0).d)       (List.getD ts         (0 + Int.toNat (F.snt (List.take (Int.toNat i) (List.drop 0 l)) (List.getD l (0 + Int.toNat i) (cod 1).d).2.2))         (cod 0).d) +     1])) 3]⟩))))))))))))) (
  .need (i64ok (List.getD la (0 + Int.toNat (List.getD l (0 + Int.toNat i) (cod 1).d).1) (cod 0).d + 1)) (
  .need (((0 : Int) ≤ (List.getD l (0 + Int.toNat i) (cod 1).d).1 ∧ (List.getD l (0 + Int.toNat i) (cod 1).d).1 < Int.ofNat 8)) (
  .need (0 + Int.toNat (List.getD l (0 + Int.toNat i) (cod 1).d).1 < List.length la) (
  .need (i64ok (List.getD la (0 + Int.toNat (List.getD l (0 + Int.toNat i) (cod 1).d).1) (cod 0).d + 1)) (
  .need (1 = 1) (
  .need (List.length ts + 1 ≤ 1000000) (
  .need (i64ok (i + 1)) (
  .ret (.cut (cutAt Try.f7 7) ⟨tmG 34 [(0, .c (.slc 0 0 (List.length l) l_t)), (4, .c (.ptr 2 0 0)), (0, .c (.own 3 (List.length ts + 1))), (8, .c (.slc 0 0 (List.length l) l_t)), (0, .c (.int .i64 (Int.ofNat (List.length l)))), (0, .c (.int .i64 (i + 1)))], [.inp 1 l, .own 0 [] 3, .arr 0 (List.set la (0 + Int.toNat (List.getD l (0 + Int.toNat i) (cod 1).d).1)   (List.getD la (0 + Int.toNat (List.getD l (0 + Int.toNat i) (cod 1).d).1) (cod 0).d + 1)) 34, .own 0 (ts ++ ([List.getD la (0 + Int.toNat (List.getD l (0 + Int.toNat i) (cod 1).d).1) (cod 0).d + 1])) 3]⟩)))))))))))))) (
 .ret (.fin (.tup [.c (.own 1 (List.length ts)), .c (.int .i64 0)]) [.own 0 ts 3])) := by kernel_rfl



theorem lam_run (l : List (Int × Int × Int)) (l_t : Bool) (b0 : Base) (hb : b0.n = 1) (h0 : l.length ≤ 1000000) : Sym.Runs Try.prog b0 [.code (codeOf Try.f7)] ⟨argsS Try.f7 [.c (.slc 0 0 (List.length l) l_t)], ([.inp 1 l] : Heap cod)⟩ (Sym.Ends Try.prog Try.f7 1 (.tup [.c (.own 1 (List.length (F.lam l))), .c (.int .i64 (F.chk l))]) [.own 0 (F.lam l) 3]) := by
  refine Runs.go (cfg := C_clone) L_clone_ok mixed cuts_lam 400 hb (lam_t0 l l_t) ?_
  simp only [T.wp, T.wp_cond, Aft, Int.ofNat_eq_natCast, decide_eq_true_eq, and_true, true_and, Nat.zero_add, Bool.not_eq_true', decide_eq_false_iff_not]
  refine ⟨h0, ?_⟩
  by_cases hc : ¬ F.chk l = 0
  · refine ite_yes hc ?_
    have e : F.lam l = [] := by unfold F.lam; rw [if_neg hc]
    rw [e]
    exact ⟨rfl, rfl⟩
  have hc : F.chk l = 0 := Decidable.not_not.1 hc
  refine ite_no (by simpa using hc) ?_
  obtain ⟨hlen, hE⟩ := F.chk_ok hc
  have eL : F.lam l = (F.lamG l l.length).2 := by unfold F.lam; rw [if_pos hc]
  have key : ∀ (r n : Nat), n + r = l.length → Sym.Runs Try.prog b0 (cutAt Try.f7 7) (st_lam_7 l l_t (n : Int) (F.lamG l n).1 (F.lamG l n).2) (Sym.Ends Try.prog Try.f7 1 (.tup [.c (.own 1 (List.length (F.lam l))), .c (.int .i64 (F.chk l))]) [.own 0 (F.lam l) 3]) := by
    intro r
    induction r with
    | zero =>
      intro n hn
      refine Runs.go (cfg := C_clone) L_clone_ok mixed cuts_lam 400 hb (lam_t7 l l_t (n : Int) (F.lamG l n).1 (F.lamG l n).2) ?_
      simp only [T.wp, T.wp_cond, Aft, Int.ofNat_eq_natCast, decide_eq_true_eq, and_true, true_and, Nat.zero_add, Bool.not_eq_true', decide_eq_false_iff_not]
      refine ite_no (by omega) ?_
      have en : n = l.length := by omega
      subst en
      rw [eL, hc]
      exact ⟨rfl, rfl⟩
    | succ r ih =>
      intro n hn
      have nx := ih (n + 1) (by omega)
      refine Runs.go (cfg := C_clone) L_clone_ok mixed cuts_lam 400 hb (lam_t7 l l_t (n : Int) (F.lamG l n).1 (F.lamG l n).2) ?_
      obtain ⟨b1, b2, b3, b4⟩ := F.lam_bound l n
      have eg : F.lamG l (n + 1) = ((F.lamG l n).1.set (l.getD n F.ev0).1.toNat (F.lamV l (F.lamG l n).1 (F.lamG l n).2 n), (F.lamG l n).2 ++ [F.lamV l (F.lamG l n).1 (F.lamG l n).2 n]) := rfl
      rw [eg] at nx
      simp only [F.lamV, st_lam_7, List.length_append, List.length_singleton, Int.natCast_succ] at nx
      obtain ⟨k1, k2, k3, k4⟩ := F.chkE_ok (hE n (by omega))
      have hlt := fun h : 0 ≤ F.snt (l.take n) (l.getD n F.ev0).2.2 => F.snt_lt h
      rw [List.length_take] at hlt
      have ed : (cod 1).d = F.ev0 := rfl
      have ez : (cod 0).d = (0 : Int) := rfl
      simp only [T.wp, T.wp_cond, Aft, Int.ofNat_eq_natCast, decide_eq_true_eq, and_true, true_and, Nat.zero_add, Bool.not_eq_true', decide_eq_false_iff_not, Nat.zero_add, Int.toNat_natCast, List.drop_zero, ed, ez]
      generalize l.getD n F.ev0 = p at *
      generalize F.snt (l.take n) p.2.2 = q at *
      generalize (F.lamG l n).1 = la at *
      generalize (F.lamG l n).2 = ts at *
      have c1 := b3 p.1.toNat
      have c2 := b4 q.toNat
      have hx : (n : Int) < (l.length : Int) := by omega
      have hS : Sym.i64ok ((n : Int) + 1) := by unfold Sym.i64ok; omega
      have hP : p.1.toNat < la.length := by omega
      have hT : ts.length + 1 ≤ 1000000 := by omega
      refine ite_yes hx ⟨⟨by omega, hx⟩, by omega, k1, hP, ?_⟩
      by_cases e : p.2.1 = 2
      · have hq := k4 e
        have hq2 := hlt hq
        rw [if_pos e] at nx
        generalize ev : max (la.getD p.1.toNat 0) (ts.getD q.toNat 0) + 1 = v at *
        have hv : Sym.i64ok v := by unfold Sym.i64ok; omega
        exact ite_yes e ⟨⟨by omega, by omega⟩, ⟨by omega, by omega⟩, ⟨hq, by omega⟩, by omega, hv, k1, hP, hv, hT, hS, nx⟩
      · rw [if_neg e] at nx
        generalize ev : la.getD p.1.toNat 0 + 1 = v at *
        have hv : Sym.i64ok v := by unfold Sym.i64ok; omega
        exact ite_no e ⟨hv, k1, hP, hv, hT, hS, nx⟩
  exact key l.length 0 (by omega)



noncomputable def s_lam : Summ cod := fun args H => match args, H with
  | [.c (.slc 0 l_i l_n l_t)], [o0] => (match o0.asInp 1 with | some l => .need ((l_i = 0 ∧ l_n = List.length l) ∧ (l.length ≤ 1000000)) (.ret (.tup [.c (.own 1 (List.length (F.lam l))), .c (.int .i64 (F.chk l))], [.own 0 (F.lam l) 3])) | none => .fail)
  | _, _ => .fail


theorem lam_sound : Sound Try.prog cod 7 s_lam := sound_runs (cfg := C_clone) L_clone_ok mixed Try.func7 rfl rfl _ fun args H r news hg b0 hb => by
  unfold s_lam at hg
  split at hg
  · skip
    split at hg
    · rename_i l hx0
      cases asInp_spec hx0
      simp only [T.gives, T.wp, Prod.mk.injEq] at hg
      obtain ⟨⟨⟨rfl, rfl⟩, q1⟩, rfl, rfl⟩ := hg
      exact lam_run _ _ b0 hb (by assumption)
    · exact hg.elim
  · exact hg.elim

noncomputable def L_lam : Sums cod := (7, .p s_lam) :: L_clone
noncomputable def C_lam : Cfg cod := mkC L_lam

theorem L_lam_ok : Snd Try.prog cod L_lam := .cons lam_sound L_clone_ok


end
end Go.Proofs.Ytgmnfdmlidhbcaa
