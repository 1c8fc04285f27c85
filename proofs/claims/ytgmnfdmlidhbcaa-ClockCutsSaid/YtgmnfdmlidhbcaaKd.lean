/- Part of a claim: lemmas on the way to its theorem; each states its own conditions. -/
import Derived.Test.YtgmnfdmlidhbcaaKc
namespace Go.Proofs.Ytgmnfdmlidhbcaa
open Sym Go.RowKit
noncomputable section
set_option maxRecDepth 100000
set_option maxHeartbeats 4000000



namespace F
def maxG (b : Nat) (row la : List Int) : Nat → List Int
  | 0 => la
  | j + 1 => (maxG b row la j).set (b + j) (max ((maxG b row la j).getD (b + j) 0) (row.getD j 0))
def vecS (l : List Ev) (la : List Int) (out : List (List Int)) (i : Nat) : List Int :=
  (if (l.getD i ev0).2.1 = 2 then maxG ((l.getD i ev0).1.toNat * 8) (out.getD (snt (l.take i) (l.getD i ev0).2.2).toNat []) la 8 else la)
def vecT (la : List Int) (s : Nat) : List Int := la.set (s * 8 + s) (la.getD (s * 8 + s) 0 + 1)
def vecG (l : List Ev) : Nat → List Int × List (List Int)
  | 0 => (List.replicate 64 0, [])
  | n + 1 => (vecT (vecS l (vecG l n).1 (vecG l n).2 n) (l.getD n ev0).1.toNat, (vecG l n).2 ++ [((vecT (vecS l (vecG l n).1 (vecG l n).2 n) (l.getD n ev0).1.toNat).drop ((l.getD n ev0).1.toNat * 8)).take 8])
def vec (l : List Ev) : List (List Int) := (vecG l l.length).2
end F
def opsI : List Item → Array Oper
  | .code (.region _ ops _) :: _ => ops
  | _ => #[]
def idI : List Item → Nat
  | .code (.region i _ _) :: _ => i
  | _ => 0
noncomputable def R14 : Array Oper := opsI (regAt Try.f30 14)
noncomputable def K15 : List Item := (regAt Try.f30 14).tail


namespace F
theorem gpart {α : Type} (l : List α) (i n : Nat) (d : α) (k : Nat) : ((l.drop i).take n).getD k d = if k < n then l.getD (i + k) d else d := by
  by_cases h : k < n
  · rw [if_pos h, getD_part l d i n k h]
  · rw [if_neg h, List.getD_eq_getElem?_getD, List.getElem?_eq_none (by rw [List.length_take]; omega)]
    rfl
theorem maxG_len (b : Nat) (row la : List Int) : ∀ j, (maxG b row la j).length = la.length
  | 0 => rfl
  | j + 1 => by
      unfold maxG
      rw [List.length_set, maxG_len b row la j]
theorem maxG_bound (b : Nat) (row la : List Int) (M : Int) (h1 : ∀ k, 0 ≤ la.getD k 0 ∧ la.getD k 0 ≤ M) (h2 : ∀ k, 0 ≤ row.getD k 0 ∧ row.getD k 0 ≤ M) : ∀ j k, 0 ≤ (maxG b row la j).getD k 0 ∧ (maxG b row la j).getD k 0 ≤ M
  | 0, k => h1 k
  | j + 1, k => by
      unfold maxG
      rw [gset]
      have a := maxG_bound b row la M h1 h2 j (b + j)
      have c := maxG_bound b row la M h1 h2 j k
      have d := h2 j
      split
      · omega
      · omega
theorem vecS_len (l : List Ev) (la : List Int) (out : List (List Int)) (i : Nat) : (vecS l la out i).length = la.length := by
  unfold vecS
  split
  · rw [maxG_len]
  · rfl
theorem vec_bound {l : List Ev} (hc : chk l = 0) : ∀ n, n ≤ l.length → (vecG l n).1.length = 64 ∧ (vecG l n).2.length = n ∧ (∀ j, j < n → ((vecG l n).2.getD j []).length = 8) ∧
    (∀ k, 0 ≤ (vecG l n).1.getD k 0 ∧ (vecG l n).1.getD k 0 ≤ n) ∧ (∀ j k, 0 ≤ ((vecG l n).2.getD j []).getD k 0 ∧ ((vecG l n).2.getD j []).getD k 0 ≤ n)
  | 0, _ => by
      refine ⟨rfl, rfl, fun j h => by omega, fun k => ?_, fun j k => ?_⟩
      · have e : (vecG l 0).1.getD k 0 = 0 := by
          show (List.replicate 64 (0 : Int)).getD k 0 = 0
          rw [List.getD_eq_getElem?_getD, List.getElem?_replicate]
          split <;> rfl
        rw [e]
        exact ⟨Int.le_refl _, Int.le_refl _⟩
      · have e : ((vecG l 0).2.getD j []).getD k 0 = 0 := rfl
        rw [e]
        exact ⟨Int.le_refl _, Int.le_refl _⟩
  | n + 1, hn => by
      obtain ⟨h1, h2, h3, h4, h5⟩ := vec_bound hc n (by omega)
      have hs := (chkE_ok ((chk_ok hc).2 n (by omega))).1
      have eS : ∀ k, 0 ≤ (vecS l (vecG l n).1 (vecG l n).2 n).getD k 0 ∧ (vecS l (vecG l n).1 (vecG l n).2 n).getD k 0 ≤ n := fun k => by
        unfold vecS
        split
        · exact maxG_bound _ _ _ _ h4 (fun k => h5 _ k) _ _
        · exact h4 k
      have eL := vecS_len l (vecG l n).1 (vecG l n).2 n
      have e1 : (vecG l (n + 1)).1 = vecT (vecS l (vecG l n).1 (vecG l n).2 n) (l.getD n ev0).1.toNat := rfl
      have e2 : (vecG l (n + 1)).2 = (vecG l n).2 ++ [((vecT (vecS l (vecG l n).1 (vecG l n).2 n) (l.getD n ev0).1.toNat).drop ((l.getD n ev0).1.toNat * 8)).take 8] := rfl
      rw [e1, e2]
      generalize (l.getD n ev0).1 = p at *
      generalize vecS l (vecG l n).1 (vecG l n).2 n = S at *
      have eT : (vecT S p.toNat).length = 64 := by unfold vecT; rw [List.length_set, eL, h1]
      have eTb : ∀ k, 0 ≤ (vecT S p.toNat).getD k 0 ∧ (vecT S p.toNat).getD k 0 ≤ n + 1 := fun k => by
        unfold vecT
        rw [gset]
        have a := eS k
        have c := eS (p.toNat * 8 + p.toNat)
        split
        · omega
        · omega
      refine ⟨eT, by rw [List.length_append, h2]; rfl, fun j hj => ?_, fun k => ?_, fun j k => ?_⟩
      · rw [gapp]
        split
        · rw [List.length_take, List.length_drop, eT]
          omega
        · exact h3 j (by omega)
      · have a := eTb k
        rw [Int.natCast_succ]
        exact a
      · rw [gapp, Int.natCast_succ]
        split
        · rw [gpart]
          split
          · exact eTb _
          · omega
        · have a := h5 j k
          omega
theorem set_same (L : List (List Int)) (j : Nat) : L.set j (L.getD j []) = L := by
  rw [List.getD_eq_getElem?_getD]
  by_cases h : j < L.length
  · rw [List.getElem?_eq_getElem h]
    exact List.set_getElem_self h
  · rw [List.set_eq_of_length_le (by omega)]
end F


def cuts_vecs : Cuts := [(4, [0, 3, 10, 11, 12, 4], 3), (100008, [7, 0, 3, 10, 11, 12, 4, 6, 5], 5), (9, [7, 31, 0, 3, 10, 11, 12, 4, 6, 32, 33], 5), (100013, [0, 3, 10, 11, 12, 7, 4, 6], 5), (100014, [0, 3, 10, 11, 12, 7, 4], 4)]
def cuts_vecs_r8 : Cuts := [(4, [0, 3, 10, 11, 12, 4], 3), (9, [7, 31, 0, 3, 10, 11, 12, 4, 6, 32, 33], 5), (100013, [0, 3, 10, 11, 12, 7, 4, 6], 5), (100014, [0, 3, 10, 11, 12, 7, 4], 4)]
def cuts_vecs_r8b : Cuts := [(4, [0, 3, 10, 11, 12, 4], 3), (9, [7, 31, 0, 3, 10, 11, 12, 4, 6, 32, 33], 5), (100013, [0, 3, 10, 11, 12, 7, 4, 6], 5), (100014, [0, 3, 10, 11, 12, 7, 4], 4)]
def cuts_vecs_r13 : Cuts := [(4, [0, 3, 10, 11, 12, 4], 3), (100008, [7, 0, 3, 10, 11, 12, 4, 6, 5], 5), (9, [7, 31, 0, 3, 10, 11, 12, 4, 6, 32, 33], 5), (100014, [0, 3, 10, 11, 12, 7, 4], 4)]
def cuts_vecs_r14 : Cuts := [(4, [0, 3, 10, 11, 12, 4], 3), (100008, [7, 0, 3, 10, 11, 12, 4, 6, 5], 5), (9, [7, 31, 0, 3, 10, 11, 12, 4, 6, 32, 33], 5), (100013, [0, 3, 10, 11, 12, 7, 4, 6], 5)]

theorem vecs_t0 (l : List (Int × Int × Int)) (l_t : Bool) : symF C_lam cuts_vecs Try.f30.results.toList 1 400 [.code (codeOf Try.f30)] ⟨argsS Try.f30 [.c (.slc 0 0 (List.length l) l_t)], ([.inp 1 l] : Heap cod)⟩ =
.ret (.cut (cutAt Try.f30 4) ⟨tmG 55 [(0, .c (.slc 0 0 (List.length l) l_t)), (2, .c (.ptr 1 0 0)), (0, .c (.nil)), (5, .c (.slc 0 0 (List.length l) l_t)), (0, .c (.int .i64 (Int.ofNat (List.length l)))), (0, .c (.int .i64 0))], [.inp 1 l, .arr 0 ([0, 0, 0, 0, 0, 0, 0, 0, 0, 0, 0, 0, 0, 0, 0, 0, 0, 0, 0, 0, 0, 0, 0, 0, 0, 0, 0, 0, 0, 0, 0, 0, 0, 0, 0, 0, 0, 0, 0, 0,   0, 0, 0, 0, 0, 0, 0, 0, 0, 0, 0, 0, 0, 0, 0, 0, 0, 0, 0, 0, 0, 0, 0, 0] : List Int) 81]⟩) := by kernel_rfl


noncomputable def st_vecs_4 (l : List (Int × Int × Int)) (l_t : Bool) (i : Int) (la : List Int) (LL : List (List Int)) : St cod := ⟨tmG 55 [(0, .c (.slc 0 0 (List.length l) l_t)), (2, .c (.ptr 1 0 0)), (0, .c (.own 2 (List.length LL))), (5, .c (.slc 0 0 (List.length l) l_t)), (0, .c (.int .i64 (Int.ofNat (List.length l)))), (0, .c (.int .i64 i))], ([.inp 1 l, .arr 0 la 81, .nown 0 LL [] [] 24 3] : Heap cod)⟩


theorem vecs_t4 (l : List (Int × Int × Int)) (l_t : Bool) (i : Int) (la : List Int) (LL : List (List Int)) : symF C_lam cuts_vecs Try.f30.results.toList 1 400 (cutAt Try.f30 4) (st_vecs_4 l l_t i la LL) =
 cond (decide (i < Int.ofNat (List.length l))) (
 .need (((0 : Int) ≤ i ∧ i < Int.ofNat (List.length l))) (
 .need (0 + Int.toNat i < List.length l) (
 .need (((0 : Int) ≤ (List.getD l (0 + Int.toNat i) (cod 1).d).1 ∧ (List.getD l (0 + Int.toNat i) (cod 1).d).1 < Int.ofNat 8)) (
 cond (decide ((List.getD l (0 + Int.toNat i) (cod 1).d).2.1 = 2)) (
  .ret (.cut (regAt Try.f30 8) ⟨tmG 55 [(0, .c (.slc 0 0 (List.length l) l_t)), (2, .c (.ptr 1 0 0)), (0, .c (.own 2 (List.length LL))), (0, .c (.int .i64 i)), (0, .c (.ptr 3 0 0)), (0, .c (.ptr 1 (0 + Int.toNat (List.getD l (0 + Int.toNat i) (cod 1).d).1 * (8 / 1)) 0)), (2, .c (.slc 0 0 (List.length l) l_t)), (0, .c (.int .i64 (Int.ofNat (List.length l)))), (0, .c (.int .i64 i))], [.inp 1 l, .arr 0 la 81, .nown 0 (LL) [] [] 24 3, .blk [.int .i64 ((List.getD l (0 + Int.toNat i) (cod 1).d).1), .int .i64 ((List.getD l (0 + Int.toNat i) (cod 1).d).2.1), .int .i64 ((List.getD l (0 + Int.toNat i) (cod 1).d).2.2)] 37]⟩)) (
  .ret (.cut (regAt Try.f30 13) ⟨tmG 55 [(0, .c (.slc 0 0 (List.length l) l_t)), (2, .c (.ptr 1 0 0)), (0, .c (.own 2 (List.length LL))), (1, .c (.ptr 3 0 0)), (0, .c (.ptr 1 (0 + Int.toNat (List.getD l (0 + Int.toNat i) (cod 1).d).1 * (8 / 1)) 0)), (2, .c (.slc 0 0 (List.length l) l_t)), (0, .c (.int .i64 (Int.ofNat (List.length l)))), (0, .c (.int .i64 i))], [.inp 1 l, .arr 0 la 81, .nown 0 (LL) [] [] 24 3, .blk [.int .i64 ((List.getD l (0 + Int.toNat i) (cod 1).d).1), .int .i64 ((List.getD l (0 + Int.toNat i) (cod 1).d).2.1), .int .i64 ((List.getD l (0 + Int.toNat i) (cod 1).d).2.2)] 37]⟩)))))) (
 .ret (.fin (.c (.own 1 (List.length LL))) [.nown 0 (LL) [] [] 24 3])) := by kernel_rfl


noncomputable def st_vecs_r8 (l : List (Int × Int × Int)) (l_t : Bool) (i : Int) (la : List Int) (LL : List (List Int)) (b : Nat) (a1 a2 a3 : Int) : St cod := ⟨tmG 55 [(0, .c (.slc 0 0 (List.length l) l_t)), (2, .c (.ptr 1 0 0)), (0, .c (.own 2 (List.length LL))), (0, .c (.int .i64 i)), (0, .c (.ptr 3 0 0)), (0, .c (.ptr 1 b 0)), (2, .c (.slc 0 0 (List.length l) l_t)), (0, .c (.int .i64 (Int.ofNat (List.length l)))), (0, .c (.int .i64 i))], ([.inp 1 l, .arr 0 la 81, .nown 0 LL [] [] 24 3, .blk [.int .i64 a1, .int .i64 a2, .int .i64 a3] 37] : Heap cod)⟩


theorem vecs_tr8 (l : List (Int × Int × Int)) (l_t : Bool) (i : Int) (la : List Int) (LL : List (List Int)) (b : Nat) (a1 a2 a3 : Int) : symF C_lam cuts_vecs_r8 Try.f30.results.toList 1 400 (regAt Try.f30 8) (st_vecs_r8 l l_t i la LL b a1 a2 a3) =
.need (((0 : Int) ≤ i ∧ i ≤ Int.ofNat (List.length l))) (
.need ((0 + Int.toNat i ≤ List.length l ∧ Int.toNat i ≤ 1000000)) (
.need (((0 : Int) ≤ F.snt (List.take (Int.toNat i) (List.drop 0 l)) a3 ∧ F.snt (List.take (Int.toNat i) (List.drop 0 l)) a3 < Int.ofNat (List.length LL))) (
.fail))) := by kernel_rfl


noncomputable def st_vecs_r8b (l : List (Int × Int × Int)) (l_t : Bool) (i : Int) (la : List Int) (LL : List (List Int)) (b : Nat) (a1 a2 a3 : Int) (r : List Int) (j : Nat) : St cod := ⟨tmG 55 [(0, .c (.slc 0 0 (List.length l) l_t)), (2, .c (.ptr 1 0 0)), (0, .c (.own 2 (List.length LL))), (0, .c (.int .i64 i)), (0, .c (.ptr 3 0 0)), (0, .c (.ptr 1 b 0)), (2, .c (.slc 0 0 (List.length l) l_t)), (0, .c (.int .i64 (Int.ofNat (List.length l)))), (0, .c (.int .i64 i))], ([.inp 1 l, .arr 0 la 81, .nown 0 LL [j] [.own 4 (List.length r)] 24 3, .blk [.int .i64 a1, .int .i64 a2, .int .i64 a3] 37, .own 0 r 3] : Heap cod)⟩


theorem vecs_tr8b (l : List (Int × Int × Int)) (l_t : Bool) (i : Int) (la : List Int) (LL : List (List Int)) (b : Nat) (a1 a2 a3 : Int) (r : List Int) (j : Nat) : symF C_lam cuts_vecs_r8b Try.f30.results.toList 1 400 (regAt Try.f30 8) (st_vecs_r8b l l_t i la LL b a1 a2 a3 r j) =
.need (((0 : Int) ≤ i ∧ i ≤ Int.ofNat (List.length l))) (
.need ((0 + Int.toNat i ≤ List.length l ∧ Int.toNat i ≤ 1000000)) (
.need (((0 : Int) ≤ F.snt (List.take (Int.toNat i) (List.drop 0 l)) a3 ∧ F.snt (List.take (Int.toNat i) (List.drop 0 l)) a3 < Int.ofNat (List.length LL))) (
.need ((0 + Int.toNat (F.snt (List.take (Int.toNat i) (List.drop 0 l)) a3) = j ∧ j < List.length LL)) (
.ret (.cut (cutAt Try.f30 9) ⟨tmG 34 [(0, .c (.slc 0 0 (List.length l) l_t)), (2, .c (.ptr 1 0 0)), (0, .c (.own 2 (List.length LL))), (1, .c (.ptr 3 0 0)), (0, .c (.ptr 1 (b) 0)), (2, .c (.slc 0 0 (List.length l) l_t)), (0, .c (.int .i64 (Int.ofNat (List.length l)))), (0, .c (.int .i64 i)), (18, .c (.own 4 (List.length r))), (0, .c (.int .i64 (Int.ofNat (List.length r)))), (0, .c (.int .i64 0))], [.inp 1 l, .arr 0 la 81, .nown 0 (LL) [(j)] [.own 4 (List.length r)] 24 3, .blk [.int .i64 a1, .int .i64 a2, .int .i64 a3] 37, .own 0 r 3]⟩))))) := by kernel_rfl


noncomputable def st_vecs_9 (l : List (Int × Int × Int)) (l_t : Bool) (i : Int) (la : List Int) (LL : List (List Int)) (b : Nat) (a1 a2 a3 : Int) (r : List Int) (j : Nat) (k : Int) : St cod := ⟨tmG 34 [(0, .c (.slc 0 0 (List.length l) l_t)), (2, .c (.ptr 1 0 0)), (0, .c (.own 2 (List.length LL))), (1, .c (.ptr 3 0 0)), (0, .c (.ptr 1 b 0)), (2, .c (.slc 0 0 (List.length l) l_t)), (0, .c (.int .i64 (Int.ofNat (List.length l)))), (0, .c (.int .i64 i)), (18, .c (.own 4 (List.length r))), (0, .c (.int .i64 (List.length r))), (0, .c (.int .i64 k))], ([.inp 1 l, .arr 0 la 81, .nown 0 LL [j] [.own 4 (List.length r)] 24 3, .blk [.int .i64 a1, .int .i64 a2, .int .i64 a3] 37, .own 0 r 3] : Heap cod)⟩


theorem vecs_t9 (l : List (Int × Int × Int)) (l_t : Bool) (i : Int) (la : List Int) (LL : List (List Int)) (b : Nat) (a1 a2 a3 : Int) (r : List Int) (j : Nat) (k : Int) : symF C_lam cuts_vecs Try.f30.results.toList 1 400 (cutAt Try.f30 9) (st_vecs_9 l l_t i la LL b a1 a2 a3 r j k) =
 cond (decide (k < Int.ofNat (List.length r))) (
 .need (((0 : Int) ≤ k ∧ k < Int.ofNat (List.length r))) (
 .need (0 + Int.toNat k < List.length r) (
 .need (((0 : Int) ≤ k ∧ k < Int.ofNat 8)) (
 .need (b + Int.toNat k < List.length la) (
 .need (((0 : Int) ≤ k ∧ k < Int.ofNat 8)) (
 .need (b + Int.toNat k < List.length la) (
 .need (i64ok (k + 1)) (
 .ret (.cut (cutAt Try.f30 9) ⟨tmG 34 [(0, .c (.slc 0 0 (List.length l) l_t)), (2, .c (.ptr 1 0 0)), (0, .c (.own 2 (List.length LL))), (1, .c (.ptr 3 0 0)), (0, .c (.ptr 1 (b) 0)), (2, .c (.slc 0 0 (List.length l) l_t)), (0, .c (.int .i64 (Int.ofNat (List.length l)))), (0, .c (.int .i64 i)), (18, .c (.own 4 (List.length r))), (0, .c (.int .i64 (Int.ofNat (List.length r)))), (0, .c (.int .i64 (k + 1)))], [.inp 1 l, .arr 0 (List.set la (b + Int.toNat k) (max (α := Int) (List.getD la (b + Int.toNat k) (cod 0).d) (List.getD r (0 + Int.toNat k) (cod 0).d))) 81, .nown 0 (LL) [(j)] [.own 4 (List.length r)] 24 3, .blk [.int .i64 a1, .int .i64 a2, .int .i64 a3] 37, .own 0 r 3]⟩))))))))) (
 .ret (.cut (regAt Try.f30 13) ⟨tmG 55 [(0, .c (.slc 0 0 (List.length l) l_t)), (2, .c (.ptr 1 0 0)), (0, .c (.own 2 (List.length LL))), (1, .c (.ptr 3 0 0)), (0, .c (.ptr 1 (b) 0)), (2, .c (.slc 0 0 (List.length l) l_t)), (0, .c (.int .i64 (Int.ofNat (List.length l)))), (0, .c (.int .i64 i))], [.inp 1 l, .arr 0 la 81, .nown 0 (LL) [(j)] [.own 4 (List.length r)] 24 3, .blk [.int .i64 a1, .int .i64 a2, .int .i64 a3] 37, .own 0 r 3]⟩)) := by kernel_rfl


noncomputable def st_vecs_r13 (l : List (Int × Int × Int)) (l_t : Bool) (i : Int) (la : List Int) (LL : List (List Int)) (b : Nat) (a1 a2 a3 : Int) : St cod := ⟨tmG 55 [(0, .c (.slc 0 0 (List.length l) l_t)), (2, .c (.ptr 1 0 0)), (0, .c (.own 2 (List.length LL))), (1, .c (.ptr 3 0 0)), (0, .c (.ptr 1 b 0)), (2, .c (.slc 0 0 (List.length l) l_t)), (0, .c (.int .i64 (Int.ofNat (List.length l)))), (0, .c (.int .i64 i))], ([.inp 1 l, .arr 0 la 81, .nown 0 LL [] [] 24 3, .blk [.int .i64 a1, .int .i64 a2, .int .i64 a3] 37] : Heap cod)⟩


theorem vecs_tr13 (l : List (Int × Int × Int)) (l_t : Bool) (i : Int) (la : List Int) (LL : List (List Int)) (b : Nat) (a1 a2 a3 : Int) : symF C_lam cuts_vecs_r13 Try.f30.results.toList 1 400 (regAt Try.f30 13) (st_vecs_r13 l l_t i la LL b a1 a2 a3) =
.need (((0 : Int) ≤ a1 ∧ a1 < Int.ofNat 8)) (
.need (b + Int.toNat a1 < List.length la) (
.need (i64ok (List.getD la (b + Int.toNat a1) (cod 0).d + 1)) (
.need (((0 : Int) ≤ a1 ∧ a1 < Int.ofNat 8)) (
.need (b + Int.toNat a1 < List.length la) (
.ret (.cut (regAt Try.f30 14) ⟨tmG 55 [(0, .c (.slc 0 0 (List.length l) l_t)), (2, .c (.ptr 1 0 0)), (0, .c (.own 2 (List.length LL))), (2, .c (.ptr 1 (b) 0)), (2, .c (.slc 0 0 (List.length l) l_t)), (0, .c (.int .i64 (Int.ofNat (List.length l)))), (0, .c (.int .i64 i))], [.inp 1 l, .arr 0 (List.set la (b + Int.toNat a1) (List.getD la (b + Int.toNat a1) (cod 0).d + 1)) 81, .nown 0 (LL) [] [] 24 3, .blk [.int .i64 a1, .int .i64 a2, .int .i64 a3] 37]⟩)))))) := by kernel_rfl


noncomputable def st_vecs_r14 (l : List (Int × Int × Int)) (l_t : Bool) (i : Int) (la : List Int) (LL : List (List Int)) (b : Nat) (a1 a2 a3 : Int) : St cod := ⟨tmG 55 [(0, .c (.slc 0 0 (List.length l) l_t)), (2, .c (.ptr 1 0 0)), (0, .c (.own 2 (List.length LL))), (2, .c (.ptr 1 b 0)), (2, .c (.slc 0 0 (List.length l) l_t)), (0, .c (.int .i64 (Int.ofNat (List.length l)))), (0, .c (.int .i64 i))], ([.inp 1 l, .arr 0 la 81, .nown 0 LL [] [] 24 3, .blk [.int .i64 a1, .int .i64 a2, .int .i64 a3] 37] : Heap cod)⟩


theorem vecs_tr14 (l : List (Int × Int × Int)) (l_t : Bool) (i : Int) (la : List Int) (LL : List (List Int)) (b : Nat) (a1 a2 a3 : Int) : symF C_lam cuts_vecs_r14 Try.f30.results.toList 1 400 (regAt Try.f30 14) (st_vecs_r14 l l_t i la LL b a1 a2 a3) =
.need ((b + 8 ≤ List.length la ∧ ((0 : Nat) < 8 ∧ (8 : Nat) ≤ 1000000))) (
.fail) := by kernel_rfl


theorem vecs_x (l : List (Int × Int × Int)) (l_t : Bool) (i : Int) (la : List Int) (LL : List (List Int)) (b : Nat) (a1 a2 a3 : Int) : ((lexT C_lam (R14.toList.take 6) (st_vecs_r14 l l_t i la LL b a1 a2 a3)).bind fun s => T.ret (Fin.cut (regAt Try.f30 14) s)) =
.need ((b + 8 ≤ List.length la ∧ ((0 : Nat) < 8 ∧ (8 : Nat) ≤ 1000000))) (
.ret (.cut (regAt Try.f30 14) ⟨tmG 3 [(0, .c (.slc 0 0 (List.length l) l_t)), (2, .c (.ptr 1 0 0)), (0, .c (.own 2 (List.length LL))), (2, .c (.ptr 1 (b) 0)), (2, .c (.slc 0 0 (List.length l) l_t)), (0, .c (.int .i64 (Int.ofNat (List.length l)))), (0, .c (.int .i64 i)), (46, .c (.own 2 (List.length LL))), (0, .c (.ptr 1 (b) 0)), (0, .c (.ptr 1 (b) 0)), (0, .c (.slc 1 (b) 8 true)), (0, .c (.own 4 8)), (0, .c (.slc 5 0 1 true))], [.inp 1 l, .arr 0 la 81, .nown 0 (LL) [] [] 24 3, .blk [.int .i64 a1, .int .i64 a2, .int .i64 a3] 37, .own 0 (List.take 8 (List.drop b la)) 3, .blk [.own 4 8] 24]⟩)) := by kernel_rfl


theorem vecs_y (l : List (Int × Int × Int)) (l_t : Bool) (i : Int) (la : List Int) (LL : List (List Int)) : symF C_lam cuts_vecs Try.f30.results.toList 1 400 (regAt Try.f30 14).tail (st_vecs_4 l l_t i la LL) =
.need (i64ok (i + 1)) (
.ret (.cut (cutAt Try.f30 4) ⟨tmG 55 [(0, .c (.slc 0 0 (List.length l) l_t)), (2, .c (.ptr 1 0 0)), (0, .c (.own 2 (List.length LL))), (5, .c (.slc 0 0 (List.length l) l_t)), (0, .c (.int .i64 (Int.ofNat (List.length l)))), (0, .c (.int .i64 (i + 1)))], [.inp 1 l, .arr 0 la 81, .nown 0 (LL) [] [] 24 3]⟩)) := by kernel_rfl



def st_vecs_x1 (l : List (Int × Int × Int)) (l_t : Bool) (i : Int) (la : List Int) (LL : List (List Int)) (b : Nat) (a1 a2 a3 : Int) : St cod := ⟨tmG 3 [(0, .c (.slc 0 0 (List.length l) l_t)), (2, .c (.ptr 1 0 0)), (0, .c (.own 2 (List.length LL))), (2, .c (.ptr 1 (b) 0)), (2, .c (.slc 0 0 (List.length l) l_t)), (0, .c (.int .i64 (Int.ofNat (List.length l)))), (0, .c (.int .i64 i)), (46, .c (.own 2 (List.length LL))), (0, .c (.ptr 1 (b) 0)), (0, .c (.ptr 1 (b) 0)), (0, .c (.slc 1 (b) 8 true)), (0, .c (.own 4 8)), (0, .c (.slc 5 0 1 true))], [.inp 1 l, .arr 0 la 81, .nown 0 (LL) [] [] 24 3, .blk [.int .i64 a1, .int .i64 a2, .int .i64 a3] 37, .own 0 (List.take 8 (List.drop b la)) 3, .blk [.own 4 8] 24]⟩
theorem vecs_x1 (l : List (Int × Int × Int)) (l_t : Bool) (i : Int) (la : List Int) (LL : List (List Int)) (b : Nat) (a1 a2 a3 : Int) : lexT C_lam (R14.toList.take 6) (st_vecs_r14 l l_t i la LL b a1 a2 a3) =
  .need ((b + 8 ≤ List.length la ∧ ((0 : Nat) < 8 ∧ (8 : Nat) ≤ 1000000))) (.ret (st_vecs_x1 l l_t i la LL b a1 a2 a3)) := by kernel_rfl
noncomputable def O65 : Oper := R14.toList.getD 6 default
theorem O65_op : O65.op = .call ⟨.builtin .append, #[.tmp 59, .tmp 64], #[28, 28]⟩ := by kernel_rfl
theorem O65_dst : O65.dst = some 65 := by kernel_rfl
theorem R14_at : regAt Try.f30 14 = .code (.region (idI (regAt Try.f30 14)) R14 false) :: (regAt Try.f30 14).tail := by kernel_rfl
theorem R14_split : R14.toList = R14.toList.take 6 ++ O65 :: R14.toList.drop 7 := by kernel_rfl
theorem R14_free : (R14.toList.all fun o => o.guard.isNone) = true := by kernel_rfl
theorem T28 : Try.prog.underlying 28 = some (.slice 24) := by kernel_rfl
theorem Z24 : (Try.prog.info? 24).map (fun i => (i.zero.map fun z => z.cells.size, i.size, i.bytes)) = some (some 1, 1, 24) := by kernel_rfl
def st_vecs_x2 (l : List (Int × Int × Int)) (l_t : Bool) (i : Int) (la : List Int) (LL : List (List Int)) (b : Nat) (a1 a2 a3 : Int) : St cod := (st_vecs_x1 l l_t i la LL b a1 a2 a3).put (some 65) { v := .c (.own 2 (LL.length + 1)), H := ((st_vecs_x1 l l_t i la LL b a1 a2 a3).heap.set 2 (.nown 0 (LL ++ [[]]) [LL.length] [.own 4 8] 24 3)).map (HObj.mapC (Cell.killed [2])), kill := [2] }
def st_vecs_x3 (l : List (Int × Int × Int)) (l_t : Bool) (i : Int) (la : List Int) (LL : List (List Int)) (b : Nat) (a1 a2 a3 : Int) : St cod := (st_vecs_x2 l l_t i la LL b a1 a2 a3).put (some 4) { v := .c (.own 2 (LL.length + 1)), H := (st_vecs_x2 l l_t i la LL b a1 a2 a3).heap }
theorem vecs_x3 (l : List (Int × Int × Int)) (l_t : Bool) (i : Int) (la : List Int) (LL : List (List Int)) (b : Nat) (a1 a2 a3 : Int) : lexT C_lam (R14.toList.drop 7) (st_vecs_x2 l l_t i la LL b a1 a2 a3) = .ret (st_vecs_x3 l l_t i la LL b a1 a2 a3) := by kernel_rfl
def st_vecs_x4 (l : List (Int × Int × Int)) (l_t : Bool) (i : Int) (la : List Int) (LL : List (List Int)) (b : Nat) (a1 a2 a3 : Int) : St cod := ⟨tmG 55 [(0, .c (.slc 0 0 (List.length l) l_t)), (2, .c (.ptr 1 0 0)), (0, .c (.own 2 (LL.length + 1))), (5, .c (.slc 0 0 (List.length l) l_t)), (0, .c (.int .i64 (Int.ofNat (List.length l)))), (0, .c (.int .i64 i))], [.inp 1 l, .arr 0 la 81, .nown 0 ((LL ++ [[]]).set LL.length (List.take 8 (List.drop b la))) [] [] 24 3]⟩
theorem vecs_x4 (l : List (Int × Int × Int)) (l_t : Bool) (i : Int) (la : List Int) (LL : List (List Int)) (b : Nat) (a1 a2 a3 : Int) : ((st_vecs_x3 l l_t i la LL b a1 a2 a3).closeW 2).fit [0, 3, 10, 11, 12, 4] 3 = st_vecs_x4 l l_t i la LL b a1 a2 a3 := by kernel_rfl
theorem lt_last {α : Type} (L : List α) (x : α) : L.length < (L ++ [x]).length := by simp
theorem set_last {α : Type} (L : List α) (x y : α) : (L ++ [x]).set L.length y = L ++ [y] := by
  rw [List.set_append]
  simp
theorem vecs_app (l : List (Int × Int × Int)) (l_t : Bool) (i : Int) (la : List Int) (LL : List (List Int)) (b : Nat) (a1 a2 a3 : Int) {b0 : Base} (hb : b0.n = 1) {Q : St cod → Prop} (h1 : b + 8 ≤ la.length) (h2 : LL.length + 1 ≤ 1000000)
    (hr : Sym.Runs Try.prog b0 (regAt Try.f30 14).tail (st_vecs_4 l l_t i la (LL ++ [(la.drop b).take 8])) Q) : Sym.Runs Try.prog b0 (regAt Try.f30 14) (st_vecs_r14 l l_t i la LL b a1 a2 a3) Q := by
  refine Runs.mid (cfg := C_lam) L_lam_ok R14_at R14_split R14_free (vecs_x1 l l_t i la LL b a1 a2 a3) ?_
  refine ⟨⟨h1, by decide, by decide⟩, st_vecs_x2 l l_t i la LL b a1 a2 a3, ?_, ?_⟩
  · refine StepW.app (b := 5) (h := 2) (n := LL.length) (c := .own 4 8) (T := 28) (ty := 24) (tyr := 3) (t := 0) (LL := LL) (tb := 24) (B := 24) O65_op rfl rfl T28 Z24 (by omega) rfl rfl rfl rfl rfl h2 (by omega) ?_
    rw [O65_dst]
    rfl
  · rw [vecs_x3]
    have e4 : st_vecs_x4 l l_t i la LL b a1 a2 a3 = st_vecs_4 l l_t i la (LL ++ [(la.drop b).take 8]) := by
      unfold st_vecs_x4 st_vecs_4
      rw [set_last, List.length_append]
      rfl
    refine Runs.closeW 2 (j := LL.length) (r := 4) (N := 1) hb (t := 0) (LL := LL ++ [[]]) (js := []) (c := .own 4 8) (cs := []) (ty := 24) (tyr := 3) (l := List.take 8 (List.drop b la)) rfl (lt_last LL []) List.not_mem_nil rfl (by omega) (by omega) rfl ?_
    · refine Runs.weaken (fun a w hR => ?_) hr
      rw [← e4, ← vecs_x4]
      exact fit_rel _ _ (by omega) hR
theorem vecs_run (l : List (Int × Int × Int)) (l_t : Bool) (b0 : Base) (hb : b0.n = 1) (h0 : F.chk l = 0) : Sym.Runs Try.prog b0 [.code (codeOf Try.f30)] ⟨argsS Try.f30 [.c (.slc 0 0 (List.length l) l_t)], ([.inp 1 l] : Heap cod)⟩ (Sym.Ends Try.prog Try.f30 1 (.c (.own 1 (List.length (F.vec l)))) [.nown 0 (F.vec l) [] [] 24 3]) := by
  obtain ⟨hlen, hE⟩ := F.chk_ok h0
  have key : ∀ (r n : Nat), n + r = l.length → Sym.Runs Try.prog b0 (cutAt Try.f30 4) (st_vecs_4 l l_t (n : Int) (F.vecG l n).1 (F.vecG l n).2) (Sym.Ends Try.prog Try.f30 1 (.c (.own 1 (List.length (F.vec l)))) [.nown 0 (F.vec l) [] [] 24 3]) := by
    intro r
    induction r with
    | zero =>
      intro n hn
      refine Runs.go (cfg := C_lam) L_lam_ok mixed cuts_vecs 400 hb (vecs_t4 l l_t (n : Int) (F.vecG l n).1 (F.vecG l n).2) ?_
      simp only [T.wp, T.wp_cond, Aft, Int.ofNat_eq_natCast, decide_eq_true_eq, and_true, true_and, Nat.zero_add, Bool.not_eq_true', decide_eq_false_iff_not]
      refine ite_no (by omega) ?_
      have en : n = l.length := by omega
      subst en
      exact ⟨rfl, rfl⟩
    | succ r ih =>
      intro n hn
      have nx := ih (n + 1) (by omega)
      obtain ⟨b1, b2, b3, b4, b5⟩ := F.vec_bound h0 n (by omega)
      obtain ⟨k1, k2, k3, k4⟩ := F.chkE_ok (hE n (by omega))
      have eg : F.vecG l (n + 1) = (F.vecT (F.vecS l (F.vecG l n).1 (F.vecG l n).2 n) (l.getD n F.ev0).1.toNat, (F.vecG l n).2 ++ [((F.vecT (F.vecS l (F.vecG l n).1 (F.vecG l n).2 n) (l.getD n F.ev0).1.toNat).drop ((l.getD n F.ev0).1.toNat * 8)).take 8]) := rfl
      rw [eg] at nx
      refine Runs.go (cfg := C_lam) L_lam_ok mixed cuts_vecs 400 hb (vecs_t4 l l_t (n : Int) (F.vecG l n).1 (F.vecG l n).2) ?_
      have hlt := fun h : 0 ≤ F.snt (l.take n) (l.getD n F.ev0).2.2 => F.snt_lt h
      rw [List.length_take] at hlt
      have ed : (cod 1).d = F.ev0 := rfl
      have ez : (cod 0).d = (0 : Int) := rfl
      have hvS : F.vecS l (F.vecG l n).1 (F.vecG l n).2 n = (if (l.getD n F.ev0).2.1 = 2 then F.maxG ((l.getD n F.ev0).1.toNat * 8) ((F.vecG l n).2.getD (F.snt (l.take n) (l.getD n F.ev0).2.2).toNat []) (F.vecG l n).1 8 else (F.vecG l n).1) := rfl
      simp only [T.wp, T.wp_cond, Aft, Int.ofNat_eq_natCast, decide_eq_true_eq, and_true, true_and, Nat.zero_add, Bool.not_eq_true', decide_eq_false_iff_not, Nat.zero_add, Int.toNat_natCast, ed, Nat.div_one]
      generalize F.vecS l (F.vecG l n).1 (F.vecG l n).2 n = S at *
      have hsn : F.snt (List.take n l) (l.getD n F.ev0).2.2 = F.snt (l.take n) (l.getD n F.ev0).2.2 := rfl
      generalize l.getD n F.ev0 = p at *
      generalize (F.vecG l n).1 = la at *
      generalize (F.vecG l n).2 = LL at *
      have hx : (n : Int) < (l.length : Int) := by omega
      have hS : Sym.i64ok ((n : Int) + 1) := by unfold Sym.i64ok; omega
      have tail : S.length = 64 → (∀ k, 0 ≤ S.getD k 0 ∧ S.getD k 0 ≤ n) → Sym.Runs Try.prog b0 (regAt Try.f30 13) (st_vecs_r13 l l_t (n : Int) S LL (p.1.toNat * 8) p.1 p.2.1 p.2.2) (Sym.Ends Try.prog Try.f30 1 (.c (.own 1 (List.length (F.vec l)))) [.nown 0 (F.vec l) [] [] 24 3]) := by
        intro e1 e2
        refine Runs.go (cfg := C_lam) L_lam_ok mixed cuts_vecs_r13 400 hb (vecs_tr13 l l_t (n : Int) S LL (p.1.toNat * 8) p.1 p.2.1 p.2.2) ?_
        simp only [T.wp, T.wp_cond, Aft, Int.ofNat_eq_natCast, decide_eq_true_eq, and_true, true_and, Nat.zero_add, Bool.not_eq_true', decide_eq_false_iff_not, ez]
        have hi : p.1.toNat * 8 + p.1.toNat < S.length := by omega
        have c := e2 (p.1.toNat * 8 + p.1.toNat)
        have ev : F.vecT S p.1.toNat = S.set (p.1.toNat * 8 + p.1.toNat) (S.getD (p.1.toNat * 8 + p.1.toNat) 0 + 1) := rfl
        rw [ev] at nx
        refine ⟨k1, hi, by unfold Sym.i64ok; omega, k1, hi, ?_⟩
        refine vecs_app l l_t (n : Int) (S.set (p.1.toNat * 8 + p.1.toNat) (S.getD (p.1.toNat * 8 + p.1.toNat) 0 + 1)) LL (p.1.toNat * 8) p.1 p.2.1 p.2.2 hb (by rw [List.length_set]; omega) (by omega) ?_
        refine Runs.go (cfg := C_lam) L_lam_ok mixed cuts_vecs 400 hb (vecs_y l l_t (n : Int) _ _) ?_
        simp only [T.wp, T.wp_cond, Aft, Int.ofNat_eq_natCast, decide_eq_true_eq, and_true, true_and, Nat.zero_add, Bool.not_eq_true', decide_eq_false_iff_not]
        exact ⟨hS, nx⟩
      refine ite_yes hx ⟨⟨by omega, hx⟩, by omega, k1, ?_⟩
      by_cases e : p.2.1 = 2
      · rw [if_pos e] at hvS
        have hq := k4 e
        have hq2 := hlt hq
        generalize eq : F.snt (l.take n) p.2.2 = q at *
        refine ite_yes e ?_
        have hrow : (LL.getD q.toNat []).length = 8 := b3 _ (by omega)
        have hrb : ∀ k, 0 ≤ (LL.getD q.toNat []).getD k 0 ∧ (LL.getD q.toNat []).getD k 0 ≤ n := fun k => b5 _ k
        have hjl : q.toNat < LL.length := by omega
        have inner : ∀ (m k : Nat), k + m = 8 → Sym.Runs Try.prog b0 (cutAt Try.f30 9) (st_vecs_9 l l_t (n : Int) (F.maxG (p.1.toNat * 8) (LL.getD q.toNat []) la k) LL (p.1.toNat * 8) p.1 p.2.1 p.2.2 (LL.getD q.toNat []) q.toNat (k : Int)) (Sym.Ends Try.prog Try.f30 1 (.c (.own 1 (List.length (F.vec l)))) [.nown 0 (F.vec l) [] [] 24 3]) := by
          intro m
          induction m with
          | zero =>
            intro k hk
            refine Runs.go (cfg := C_lam) L_lam_ok mixed cuts_vecs 400 hb (vecs_t9 l l_t (n : Int) (F.maxG (p.1.toNat * 8) (LL.getD q.toNat []) la k) LL (p.1.toNat * 8) p.1 p.2.1 p.2.2 (LL.getD q.toNat []) q.toNat (k : Int)) ?_
            simp only [T.wp, T.wp_cond, Aft, Int.ofNat_eq_natCast, decide_eq_true_eq, and_true, true_and, Nat.zero_add, Bool.not_eq_true', decide_eq_false_iff_not]
            refine ite_no (by rw [hrow]; omega) ?_
            have ek : k = 8 := by omega
            subst ek
            rw [← hvS]
            refine Runs.closeW 2 (j := q.toNat) (r := 4) (N := 1) hb (t := 0) (LL := LL) (js := []) (c := .own 4 (List.length (LL.getD q.toNat []))) (cs := []) (ty := 24) (tyr := 3) (l := LL.getD q.toNat []) rfl hjl List.not_mem_nil rfl (by omega) (by omega) (st' := ⟨tmG 55 [(0, .c (.slc 0 0 (List.length l) l_t)), (2, .c (.ptr 1 0 0)), (0, .c (.own 2 (List.length LL))), (1, .c (.ptr 3 0 0)), (0, .c (.ptr 1 (p.1.toNat * 8) 0)), (2, .c (.slc 0 0 (List.length l) l_t)), (0, .c (.int .i64 (Int.ofNat (List.length l)))), (0, .c (.int .i64 (n : Int)))], [.inp 1 l, .arr 0 S 81, .nown 0 (LL.set q.toNat (LL.getD q.toNat [])) [] [] 24 3, .blk [.int .i64 p.1, .int .i64 p.2.1, .int .i64 p.2.2] 37, .dead]⟩) rfl ?_
            rw [F.set_same]
            refine Runs.weaken (st' := st_vecs_r13 l l_t (n : Int) S LL (p.1.toNat * 8) p.1 p.2.1 p.2.2) (fun a w hR => ?_) (tail (by rw [hvS, F.maxG_len, b1]) (by rw [hvS]; exact F.maxG_bound _ _ _ _ b4 hrb 8))
            exact fit_rel [7, 0, 3, 10, 11, 12, 4, 6] 4 (by omega) hR
          | succ m ih2 =>
            intro k hk
            have nx2 := ih2 (k + 1) (by omega)
            refine Runs.go (cfg := C_lam) L_lam_ok mixed cuts_vecs 400 hb (vecs_t9 l l_t (n : Int) (F.maxG (p.1.toNat * 8) (LL.getD q.toNat []) la k) LL (p.1.toNat * 8) p.1 p.2.1 p.2.2 (LL.getD q.toNat []) q.toNat (k : Int)) ?_
            have eL : (F.maxG (p.1.toNat * 8) (LL.getD q.toNat []) la k).length = 64 := by rw [F.maxG_len, b1]
            simp only [T.wp, T.wp_cond, Aft, Int.ofNat_eq_natCast, decide_eq_true_eq, and_true, true_and, Nat.zero_add, Bool.not_eq_true', decide_eq_false_iff_not, Nat.zero_add, Int.toNat_natCast, ez]
            have h8 : (k : Int) < 8 := by omega
            have hb8 : p.1.toNat * 8 + k < (F.maxG (p.1.toNat * 8) (LL.getD q.toNat []) la k).length := by omega
            refine ite_yes (by rw [hrow]; omega) ⟨⟨by omega, by rw [hrow]; omega⟩, by rw [hrow]; omega, ⟨by omega, h8⟩, hb8, ⟨by omega, h8⟩, hb8, by unfold Sym.i64ok; omega, ?_⟩
            rw [Int.natCast_succ] at nx2
            exact nx2
        refine Runs.openW 2 q.toNat (t := 0) (LL := LL) (js := []) (cs := []) (ty := 24) (tyr := 3) rfl hjl List.not_mem_nil (st' := st_vecs_r8b l l_t (n : Int) la LL (p.1.toNat * 8) p.1 p.2.1 p.2.2 (LL.getD q.toNat []) q.toNat) rfl ?_
        refine Runs.go (cfg := C_lam) L_lam_ok mixed cuts_vecs_r8b 400 hb (vecs_tr8b l l_t (n : Int) la LL (p.1.toNat * 8) p.1 p.2.1 p.2.2 (LL.getD q.toNat []) q.toNat) ?_
        simp only [T.wp, T.wp_cond, Aft, Int.ofNat_eq_natCast, decide_eq_true_eq, and_true, true_and, Nat.zero_add, Bool.not_eq_true', decide_eq_false_iff_not, Nat.zero_add, Int.toNat_natCast, List.drop_zero, eq]
        exact ⟨⟨by omega, by omega⟩, ⟨by omega, by omega⟩, ⟨hq, by omega⟩, hjl, inner 8 0 rfl⟩
      · rw [if_neg e] at hvS
        subst hvS
        exact ite_no e (tail b1 b4)
  refine Runs.go (cfg := C_lam) L_lam_ok mixed cuts_vecs 400 hb (vecs_t0 l l_t) ?_
  simp only [T.wp, T.wp_cond, Aft, Int.ofNat_eq_natCast, decide_eq_true_eq, and_true, true_and, Nat.zero_add, Bool.not_eq_true', decide_eq_false_iff_not]
  exact Runs.madeW 4 0 24 3 rfl rfl (key l.length 0 (by omega))



noncomputable def s_vecs : Summ cod := fun args H => match args, H with
  | [.c (.slc 0 l_i l_n l_t)], [o0] => (match o0.asInp 1 with | some l => .need ((l_i = 0 ∧ l_n = List.length l) ∧ (F.chk l = 0)) (.ret (.c (.own 1 (List.length (F.vec l))), [.nown 0 (F.vec l) [] [] 24 3])) | none => .fail)
  | _, _ => .fail


theorem vecs_sound : Sound Try.prog cod 30 s_vecs := sound_runs (cfg := C_lam) L_lam_ok mixed Try.func30 rfl rfl _ fun args H r news hg b0 hb => by
  unfold s_vecs at hg
  split at hg
  · skip
    split at hg
    · rename_i l hx0
      cases asInp_spec hx0
      simp only [T.gives, T.wp, Prod.mk.injEq] at hg
      obtain ⟨⟨⟨rfl, rfl⟩, q1⟩, rfl, rfl⟩ := hg
      exact vecs_run _ _ b0 hb (by assumption)
    · exact hg.elim
  · exact hg.elim

noncomputable def L_vecs : Sums cod := (30, .p s_vecs) :: L_lam
noncomputable def C_vecs : Cfg cod := mkC L_vecs

theorem L_vecs_ok : Snd Try.prog cod L_vecs := .cons vecs_sound L_lam_ok


end
end Go.Proofs.Ytgmnfdmlidhbcaa
