/- Part of a claim: lemmas on the way to its theorem; each states its own conditions. -/
import Derived.Test.YtbkpgpkeecnjpaaHs
namespace Go.Proofs.Ytbkpgpkeecnjpaa
open Sym Go.RowKit
noncomputable section
set_option maxRecDepth 100000
set_option maxHeartbeats 4000000



namespace F
def wantN (A : List C6) : Nat → Int → List Int
  | 0, _ => []
  | m + 1, d => (A.filter fun x => decide (x.1 = d)).map (·.1) ++ wantN A m (d + 1)
end F
theorem wantN_mem (A : List F.C6) : ∀ (m : Nat) (d z : Int), z ∈ F.wantN A m d → d ≤ z ∧ z < d + m
  | 0, d, z, h => by simp [F.wantN] at h
  | m + 1, d, z, h => by
    rw [F.wantN, List.mem_append] at h
    rcases h with h | h
    · obtain ⟨x, hx, rfl⟩ := List.mem_map.1 h
      have := (List.mem_filter.1 hx).2
      simp only [decide_eq_true_eq] at this
      omega
    · have := wantN_mem A m (d + 1) z h
      omega
theorem wantN_sorted (A : List F.C6) : ∀ (m : Nat) (d : Int), (F.wantN A m d).Pairwise (· ≤ ·)
  | 0, d => .nil
  | m + 1, d => by
    have eqd : ∀ z, z ∈ (A.filter fun x => decide (x.1 = d)).map (·.1) → z = d := by
      intro z hz
      obtain ⟨x, hx, rfl⟩ := List.mem_map.1 hz
      simpa using (List.mem_filter.1 hx).2
    rw [F.wantN, List.pairwise_append]
    refine ⟨?_, wantN_sorted A m (d + 1), fun a ha b hb => ?_⟩
    · rw [List.pairwise_iff_forall_sublist]
      intro a b hab
      have h1 := eqd a (hab.subset (by simp))
      have h2 := eqd b (hab.subset (by simp))
      omega
    · have h1 := eqd a ha
      have h2 := wantN_mem A m (d + 1) b hb
      omega
theorem wantN_perm (A : List F.C6) : ∀ (m : Nat) (d : Int), (F.wantN A m d).Perm ((A.filter fun x => decide (d ≤ x.1 ∧ x.1 < d + m)).map (·.1))
  | 0, d => by
    have : (A.filter fun x => decide (d ≤ x.1 ∧ x.1 < d + (0 : Nat))) = [] := by
      rw [List.filter_eq_nil_iff]
      intro x _
      simp only [decide_eq_true_eq]
      omega
    rw [this]
    exact .refl _
  | m + 1, d => by
    have h := List.filter_append_perm (fun x : F.C6 => decide (x.1 = d)) (A.filter fun x => decide (d ≤ x.1 ∧ x.1 < d + (m + 1 : Nat)))
    rw [List.filter_filter, List.filter_filter] at h
    have e1 : (A.filter fun x => decide (x.1 = d) && decide (d ≤ x.1 ∧ x.1 < d + (m + 1 : Nat))) = A.filter fun x => decide (x.1 = d) := by
      apply List.filter_congr
      intro x _
      rw [Bool.eq_iff_iff]
      simp only [Bool.and_eq_true, decide_eq_true_eq]
      omega
    have e2 : (A.filter fun x => !decide (x.1 = d) && decide (d ≤ x.1 ∧ x.1 < d + (m + 1 : Nat))) = A.filter fun x => decide (d + 1 ≤ x.1 ∧ x.1 < d + 1 + (m : Nat)) := by
      apply List.filter_congr
      intro x _
      rw [Bool.eq_iff_iff]
      simp only [Bool.and_eq_true, Bool.not_eq_true', decide_eq_true_eq, decide_eq_false_iff_not]
      omega
    rw [e1, e2] at h
    rw [F.wantN]
    refine ((wantN_perm A m (d + 1)).append_left _).trans ?_
    rw [← List.map_append]
    exact h.map _
theorem site6_zero {x : F.C6} (h : F.site6 x = 0) : (0 ≤ x.1 ∧ x.1 ≤ 255) ∧ (-1000000 ≤ x.2.1 ∧ x.2.1 ≤ 1000000) ∧ (-1000000 ≤ x.2.2.1 ∧ x.2.2.1 ≤ 1000000) ∧ (1 ≤ x.2.2.2.1 ∧ x.2.2.2.1 ≤ 1000000) := by
  obtain ⟨h1, h2, h3, h4, _⟩ := site_zero.1 h
  exact ⟨h1, h2, h3, h4⟩
theorem all_site {l : List F.C6} (h : F.mchk l = 0) : ∀ x ∈ l, F.site6 x = 0 := by
  intro x hx
  obtain ⟨k, hk, rfl⟩ := List.mem_iff_getElem.1 hx
  have := (mchk_zero h).2 k hk
  simpa [List.getD, List.getElem?_eq_getElem hk] using this
theorem want_all {l : List F.C6} {px py : Int} (h : F.mchk l = 0) : F.sortI (F.seesL px py l) = F.wantN (l.filter (F.cov6 px py)) 256 0 := by
  refine sorted_one (sortI_sorted _) (wantN_sorted _ _ _) ((sortI_perm _).trans ((wantN_perm _ _ _).trans ?_).symm)
  have e : ((l.filter (F.cov6 px py)).filter fun x => decide (0 ≤ x.1 ∧ x.1 < 0 + ((256 : Nat) : Int))) = l.filter (F.cov6 px py) := by
    rw [List.filter_eq_self]
    intro x hx
    have := (site6_zero (all_site h x (List.mem_filter.1 hx).1)).1
    simp only [decide_eq_true_eq]
    omega
  rw [e]
  exact .refl _
theorem placed_bd {x y : Int} (h : F.placed x y = true) : (-1000000 ≤ x ∧ x ≤ 1000000) ∧ (-1000000 ≤ y ∧ y ≤ 1000000) := by
  unfold F.placed F.inb at h
  simp only [Bool.and_eq_true, decide_eq_true_eq] at h
  exact h
theorem cov6_iff {x : F.C6} {px py : Int} (h : F.site6 x = 0) (hp : F.placed px py = true) : F.cov6 px py x = decide (F.far x.2.1 x.2.2.1 px py ≤ x.2.2.2.1 * x.2.2.2.1) := by
  unfold F.cov6 F.cov
  rw [hp]
  have h' : F.site x.1 x.2.1 x.2.2.1 x.2.2.2.1 x.2.2.2.2.1 x.2.2.2.2.2 = 0 := h
  simp [h']


def cuts_mslaw : Cuts := [(8, [7, 8, 0, 48, 3, 49, 50], 5), (13, [7, 8, 10, 67, 0, 48, 3, 49, 50, 68, 69], 6), (23, [3, 0, 7, 8, 102, 13], 6), (26, [14, 3, 105, 0, 7, 8, 102, 106, 107, 13], 6)]

theorem mslaw_t0 (l : List (Int × Int × Int × Int × Int × Int)) (l_t : Bool) (px py : Int) : symF C_sameI cuts_mslaw Try.f7.results.toList 1 400 [.code (codeOf Try.f7)] ⟨argsS Try.f7 [.c (.slc 0 0 (List.length l) l_t), .agg [.int .i64 px, .int .i64 py]], ([.inp 2 l] : Heap cod)⟩ =
.need ((0 = 0 ∧ 1 = 1)) (
.need (((0 : Int) ≤ 0 ∧ (0 : Int) < Int.ofNat 1)) (
.need ((0 + Int.toNat 0 : Nat) < 1) (
.need ((0 = 0 ∧ List.length l = List.length l)) (
 cond (decide (4 < Int.ofNat (List.length l))) (
 .ret (.fin (.c (.bool (decide (F.seesE px py l = 2)))) [])) (
 .ret (.cut (cutAt Try.f7 8) ⟨tmG 89 [(0, .c (.slc 0 0 (List.length l) l_t)), (2, .c (.ptr 1 0 0)), (3, .c (.own 4 (List.length (F.seesR px py l)))), (0, .c (.int .i64 (F.seesE px py l))), (39, .c (.slc 0 0 (List.length l) l_t)), (0, .c (.int .i64 (Int.ofNat (List.length l)))), (0, .c (.int .i64 0))], [.inp 2 l, .blk [.int .i64 px, .int .i64 py] 62, .arr 2 ([(1, 0, 0, 5, 1, 1)]) 66, .own 0 (F.seesR 3 4 [(1, 0, 0, 5, 1, 1)]) 3, .own 0 (F.seesR px py l) 3]⟩)))))) := by kernel_rfl


noncomputable def st_mslaw_8 (l : List (Int × Int × Int × Int × Int × Int)) (l_t : Bool) (px py : Int) (i : Int) : St cod := ⟨tmG 89 [(0, .c (.slc 0 0 (List.length l) l_t)), (2, .c (.ptr 1 0 0)), (3, .c (.own 4 (List.length (F.seesR px py l)))), (0, .c (.int .i64 (F.seesE px py l))), (39, .c (.slc 0 0 (List.length l) l_t)), (0, .c (.int .i64 (Int.ofNat (List.length l)))), (0, .c (.int .i64 i))], [.inp 2 l, .blk [.int .i64 px, .int .i64 py] 62, .arr 2 ([(1, 0, 0, 5, 1, 1)]) 66, .own 0 (F.seesR 3 4 [(1, 0, 0, 5, 1, 1)]) 3, .own 0 (F.seesR px py l) 3]⟩


theorem mslaw_t8 (l : List (Int × Int × Int × Int × Int × Int)) (l_t : Bool) (px py : Int) (i : Int) : symF C_sameI cuts_mslaw Try.f7.results.toList 1 400 (cutAt Try.f7 8) (st_mslaw_8 l l_t px py i) =
 cond (decide (i < Int.ofNat (List.length l))) (
 .need (((0 : Int) ≤ i ∧ i < Int.ofNat (List.length l))) (
 .need (0 + Int.toNat i < List.length l) (
 cond (!decide     (F.site (List.getD l (0 + Int.toNat i) (cod 2).d).1 (List.getD l (0 + Int.toNat i) (cod 2).d).2.1         (List.getD l (0 + Int.toNat i) (cod 2).d).2.2.1 (List.getD l (0 + Int.toNat i) (cod 2).d).2.2.2.1         (List.getD l (0 + Int.toNat i) (cod 2).d).2.2.2.2.1 (List.getD l (0 + Int.toNat i) (cod 2).d).2.2.2.2.2 =       0)) (
  cond (decide (F.seesE px py l = 4)) (
   .ret (.fin (.c (.bool (decide (Int.ofNat (List.length (F.seesR px py l)) = 0)))) [])) (
   .ret (.fin (.c (.bool false)) []))) (
  .need (((0 : Int) ≤ i ∧ i ≤ Int.ofNat (List.length l))) (
  .ret (.cut (cutAt Try.f7 13) ⟨tmG 70 [(0, .c (.slc 0 0 (List.length l) l_t)), (2, .c (.ptr 1 0 0)), (3, .c (.own 4 (List.length (F.seesR px py l)))), (0, .c (.int .i64 (F.seesE px py l))), (1, .c (.ptr 5 0 0)), (37, .c (.slc 0 0 (List.length l) l_t)), (0, .c (.int .i64 (Int.ofNat (List.length l)))), (0, .c (.int .i64 i)), (16, .c (.slc 0 0 (Int.toNat i) false)), (0, .c (.int .i64 (Int.ofNat (Int.toNat i)))), (0, .c (.int .i64 0))], [.inp 2 l, .blk [.int .i64 px, .int .i64 py] 62, .arr 2 [(1, 0, 0, 5, 1, 1)] 66, .own 0 (F.seesR 3 4 [(1, 0, 0, 5, 1, 1)]) 3, .own 0 (F.seesR px py l) 3, .blk [.int .i64 ((List.getD l (0 + Int.toNat i) (cod 2).d).1), .int .i64 ((List.getD l (0 + Int.toNat i) (cod 2).d).2.1), .int .i64 ((List.getD l (0 + Int.toNat i) (cod 2).d).2.2.1), .int .i64 ((List.getD l (0 + Int.toNat i) (cod 2).d).2.2.2.1), .int .i64 ((List.getD l (0 + Int.toNat i) (cod 2).d).2.2.2.2.1), .int .i64 ((List.getD l (0 + Int.toNat i) (cod 2).d).2.2.2.2.2)] 66]⟩)))))) (
 cond (decide (0 < Int.ofNat (List.length l))) (
  cond (!F.placed px py) (
   cond (decide (F.seesE px py l = 4)) (
    .ret (.fin (.c (.bool (decide (Int.ofNat (List.length (F.seesR px py l)) = 0)))) [])) (
    .ret (.fin (.c (.bool false)) []))) (
   .ret (.cut (cutAt Try.f7 23) ⟨tmG 37 [(0, .c (.slc 0 0 (List.length l) l_t)), (2, .c (.ptr 1 0 0)), (3, .c (.own 4 (List.length (F.seesR px py l)))), (0, .c (.int .i64 (F.seesE px py l))), (4, .c (.own 5 0)), (88, .c (.int .i64 0))], [.inp 2 l, .blk [.int .i64 px, .int .i64 py] 62, .arr 2 [(1, 0, 0, 5, 1, 1)] 66, .own 0 (F.seesR 3 4 [(1, 0, 0, 5, 1, 1)]) 3, .own 0 (F.seesR px py l) 3, .own 0 [] 3]⟩))) (
  .ret (.cut (cutAt Try.f7 23) ⟨tmG 37 [(0, .c (.slc 0 0 (List.length l) l_t)), (2, .c (.ptr 1 0 0)), (3, .c (.own 4 (List.length (F.seesR px py l)))), (0, .c (.int .i64 (F.seesE px py l))), (4, .c (.own 5 0)), (88, .c (.int .i64 0))], [.inp 2 l, .blk [.int .i64 px, .int .i64 py] 62, .arr 2 [(1, 0, 0, 5, 1, 1)] 66, .own 0 (F.seesR 3 4 [(1, 0, 0, 5, 1, 1)]) 3, .own 0 (F.seesR px py l) 3, .own 0 [] 3]⟩))) := by kernel_rfl


noncomputable def st_mslaw_13 (l : List (Int × Int × Int × Int × Int × Int)) (l_t : Bool) (px py : Int) (i k : Int) : St cod := ⟨tmG 70 [(0, .c (.slc 0 0 (List.length l) l_t)), (2, .c (.ptr 1 0 0)), (3, .c (.own 4 (List.length (F.seesR px py l)))), (0, .c (.int .i64 (F.seesE px py l))), (1, .c (.ptr 5 0 0)), (37, .c (.slc 0 0 (List.length l) l_t)), (0, .c (.int .i64 (Int.ofNat (List.length l)))), (0, .c (.int .i64 i)), (16, .c (.slc 0 0 (Int.toNat i) false)), (0, .c (.int .i64 (Int.ofNat (Int.toNat i)))), (0, .c (.int .i64 k))], ([.inp 2 l, .blk [.int .i64 px, .int .i64 py] 62, .arr 2 [(1, 0, 0, 5, 1, 1)] 66, .own 0 (F.seesR 3 4 [(1, 0, 0, 5, 1, 1)]) 3, .own 0 (F.seesR px py l) 3, .blk [.int .i64 (List.getD l (Int.toNat i) F.d6).1, .int .i64 (List.getD l (Int.toNat i) F.d6).2.1, .int .i64 (List.getD l (Int.toNat i) F.d6).2.2.1, .int .i64 (List.getD l (Int.toNat i) F.d6).2.2.2.1, .int .i64 (List.getD l (Int.toNat i) F.d6).2.2.2.2.1, .int .i64 (List.getD l (Int.toNat i) F.d6).2.2.2.2.2] 66] : Heap cod)⟩


theorem mslaw_t13 (l : List (Int × Int × Int × Int × Int × Int)) (l_t : Bool) (px py : Int) (i k : Int) : symF C_sameI cuts_mslaw Try.f7.results.toList 1 400 (cutAt Try.f7 13) (st_mslaw_13 l l_t px py i k) =
 cond (decide (k < Int.ofNat (Int.toNat i))) (
 .need (((0 : Int) ≤ k ∧ k < Int.ofNat (Int.toNat i))) (
 .need (0 + Int.toNat k < List.length l) (
 cond (decide ((List.getD l (Int.toNat i) F.d6).1 = (List.getD l (0 + Int.toNat k) (cod 2).d).1)) (
  cond (decide (F.seesE px py l = 7)) (
   .ret (.fin (.c (.bool (decide (Int.ofNat (List.length (F.seesR px py l)) = 0)))) [])) (
   .ret (.fin (.c (.bool false)) []))) (
  .need (i64ok (k + 1)) (
  .ret (.cut (cutAt Try.f7 13) ⟨tmG 70 [(0, .c (.slc 0 0 (List.length l) l_t)), (2, .c (.ptr 1 0 0)), (3, .c (.own 4 (List.length (F.seesR px py l)))), (0, .c (.int .i64 (F.seesE px py l))), (1, .c (.ptr 5 0 0)), (37, .c (.slc 0 0 (List.length l) l_t)), (0, .c (.int .i64 (Int.ofNat (List.length l)))), (0, .c (.int .i64 i)), (16, .c (.slc 0 0 (Int.toNat i) false)), (0, .c (.int .i64 (Int.ofNat (Int.toNat i)))), (0, .c (.int .i64 (k + 1)))], [.inp 2 l, .blk [.int .i64 px, .int .i64 py] 62, .arr 2 [(1, 0, 0, 5, 1, 1)] 66, .own 0 (F.seesR 3 4 [(1, 0, 0, 5, 1, 1)]) 3, .own 0 (F.seesR px py l) 3, .blk [.int .i64 ((List.getD l (Int.toNat i) F.d6).1), .int .i64 ((List.getD l (Int.toNat i) F.d6).2.1), .int .i64 ((List.getD l (Int.toNat i) F.d6).2.2.1), .int .i64 ((List.getD l (Int.toNat i) F.d6).2.2.2.1), .int .i64 ((List.getD l (Int.toNat i) F.d6).2.2.2.2.1), .int .i64 ((List.getD l (Int.toNat i) F.d6).2.2.2.2.2)] 66]⟩)))))) (
 .need (i64ok (i + 1)) (
 .ret (.cut (cutAt Try.f7 8) ⟨tmG 89 [(0, .c (.slc 0 0 (List.length l) l_t)), (2, .c (.ptr 1 0 0)), (3, .c (.own 4 (List.length (F.seesR px py l)))), (0, .c (.int .i64 (F.seesE px py l))), (39, .c (.slc 0 0 (List.length l) l_t)), (0, .c (.int .i64 (Int.ofNat (List.length l)))), (0, .c (.int .i64 (i + 1)))], [.inp 2 l, .blk [.int .i64 px, .int .i64 py] 62, .arr 2 [(1, 0, 0, 5, 1, 1)] 66, .own 0 (F.seesR 3 4 [(1, 0, 0, 5, 1, 1)]) 3, .own 0 (F.seesR px py l) 3]⟩))) := by kernel_rfl


noncomputable def st_mslaw_23 (l : List (Int × Int × Int × Int × Int × Int)) (l_t : Bool) (px py : Int) (d : Int) (w : List Int) : St cod := ⟨tmG 37 [(0, .c (.slc 0 0 (List.length l) l_t)), (2, .c (.ptr 1 0 0)), (3, .c (.own 4 (List.length (F.seesR px py l)))), (0, .c (.int .i64 (F.seesE px py l))), (4, .c (.own 5 (List.length w))), (88, .c (.int .i64 d))], ([.inp 2 l, .blk [.int .i64 px, .int .i64 py] 62, .arr 2 [(1, 0, 0, 5, 1, 1)] 66, .own 0 (F.seesR 3 4 [(1, 0, 0, 5, 1, 1)]) 3, .own 0 (F.seesR px py l) 3, .own 0 w 3] : Heap cod)⟩


theorem mslaw_t23 (l : List (Int × Int × Int × Int × Int × Int)) (l_t : Bool) (px py : Int) (d : Int) (w : List Int) : symF C_sameI cuts_mslaw Try.f7.results.toList 1 400 (cutAt Try.f7 23) (st_mslaw_23 l l_t px py d w) =
 cond (decide (d < 256)) (
 .ret (.cut (cutAt Try.f7 26) ⟨tmG 32 [(0, .c (.slc 0 0 (List.length l) l_t)), (2, .c (.ptr 1 0 0)), (3, .c (.own 4 (List.length (F.seesR px py l)))), (0, .c (.int .i64 (F.seesE px py l))), (4, .c (.own 5 (List.length w))), (0, .c (.int .i64 d)), (87, .c (.int .i64 d)), (2, .c (.slc 0 0 (List.length l) l_t)), (0, .c (.int .i64 (Int.ofNat (List.length l)))), (0, .c (.int .i64 0))], [.inp 2 l, .blk [.int .i64 px, .int .i64 py] 62, .arr 2 [(1, 0, 0, 5, 1, 1)] 66, .own 0 (F.seesR 3 4 [(1, 0, 0, 5, 1, 1)]) 3, .own 0 (F.seesR px py l) 3, .own 0 w 3]⟩)) (
 cond (decide (F.seesE px py l = 0)) (
  .need ((0 + List.length (F.seesR px py l) ≤ List.length (F.seesR px py l) ∧ (0 + List.length w ≤ List.length w ∧ List.length (F.seesR px py l) ≤ 1000000))) (
  .ret (.fin (.c (.bool (F.same (F.seesR px py l) w 0 (List.length (F.seesR px py l)) 0 (List.length w)))) []))) (
  .ret (.fin (.c (.bool false)) []))) := by kernel_rfl


noncomputable def st_mslaw_26 (l : List (Int × Int × Int × Int × Int × Int)) (l_t : Bool) (px py : Int) (d k : Int) (w : List Int) : St cod := ⟨tmG 32 [(0, .c (.slc 0 0 (List.length l) l_t)), (2, .c (.ptr 1 0 0)), (3, .c (.own 4 (List.length (F.seesR px py l)))), (0, .c (.int .i64 (F.seesE px py l))), (4, .c (.own 5 (List.length w))), (0, .c (.int .i64 d)), (87, .c (.int .i64 d)), (2, .c (.slc 0 0 (List.length l) l_t)), (0, .c (.int .i64 (Int.ofNat (List.length l)))), (0, .c (.int .i64 k))], ([.inp 2 l, .blk [.int .i64 px, .int .i64 py] 62, .arr 2 [(1, 0, 0, 5, 1, 1)] 66, .own 0 (F.seesR 3 4 [(1, 0, 0, 5, 1, 1)]) 3, .own 0 (F.seesR px py l) 3, .own 0 w 3] : Heap cod)⟩


theorem mslaw_t26 (l : List (Int × Int × Int × Int × Int × Int)) (l_t : Bool) (px py : Int) (d k : Int) (w : List Int) : symF C_sameI cuts_mslaw Try.f7.results.toList 1 400 (cutAt Try.f7 26) (st_mslaw_26 l l_t px py d k w) =
 cond (decide (k < Int.ofNat (List.length l))) (
 .need (((0 : Int) ≤ k ∧ k < Int.ofNat (List.length l))) (
 .need (0 + Int.toNat k < List.length l) (
 cond (decide ((List.getD l (0 + Int.toNat k) (cod 2).d).1 = d)) (
  .need ((F.b9 (List.getD l (0 + Int.toNat k) (cod 2).d).2.1 ∧ (F.b9 (List.getD l (0 + Int.toNat k) (cod 2).d).2.2.1 ∧ (F.b9 px ∧ F.b9 py)))) (
  .need (i64ok ((List.getD l (0 + Int.toNat k) (cod 2).d).2.2.2.1 * (List.getD l (0 + Int.toNat k) (cod 2).d).2.2.2.1)) (
  cond (decide   (F.far (List.getD l (0 + Int.toNat k) (cod 2).d).2.1 (List.getD l (0 + Int.toNat k) (cod 2).d).2.2.1 px py ≤     (List.getD l (0 + Int.toNat k) (cod 2).d).2.2.2.1 * (List.getD l (0 + Int.toNat k) (cod 2).d).2.2.2.1)) (
   .need (1 = 1) (
   .need (List.length w + 1 ≤ 1000000) (
   .need (i64ok (k + 1)) (
   .ret (.cut (cutAt Try.f7 26) ⟨tmG 32 [(0, .c (.slc 0 0 (List.length l) l_t)), (2, .c (.ptr 1 0 0)), (3, .c (.own 4 (List.length (F.seesR px py l)))), (0, .c (.int .i64 (F.seesE px py l))), (4, .c (.own 5 (List.length w + 1))), (0, .c (.int .i64 d)), (87, .c (.int .i64 d)), (2, .c (.slc 0 0 (List.length l) l_t)), (0, .c (.int .i64 (Int.ofNat (List.length l)))), (0, .c (.int .i64 (k + 1)))], [.inp 2 l, .blk [.int .i64 px, .int .i64 py] 62, .arr 2 [(1, 0, 0, 5, 1, 1)] 66, .own 0 (F.seesR 3 4 [(1, 0, 0, 5, 1, 1)]) 3, .own 0 (F.seesR px py l) 3, .own 0 (w ++ [d]) 3]⟩))))) (
   .need (i64ok (k + 1)) (
   .ret (.cut (cutAt Try.f7 26) ⟨tmG 32 [(0, .c (.slc 0 0 (List.length l) l_t)), (2, .c (.ptr 1 0 0)), (3, .c (.own 4 (List.length (F.seesR px py l)))), (0, .c (.int .i64 (F.seesE px py l))), (4, .c (.own 5 (List.length w))), (0, .c (.int .i64 d)), (87, .c (.int .i64 d)), (2, .c (.slc 0 0 (List.length l) l_t)), (0, .c (.int .i64 (Int.ofNat (List.length l)))), (0, .c (.int .i64 (k + 1)))], [.inp 2 l, .blk [.int .i64 px, .int .i64 py] 62, .arr 2 [(1, 0, 0, 5, 1, 1)] 66, .own 0 (F.seesR 3 4 [(1, 0, 0, 5, 1, 1)]) 3, .own 0 (F.seesR px py l) 3, .own 0 w 3]⟩)))))) (
  .need (i64ok (k + 1)) (
  .ret (.cut (cutAt Try.f7 26) ⟨tmG 32 [(0, .c (.slc 0 0 (List.length l) l_t)), (2, .c (.ptr 1 0 0)), (3, .c (.own 4 (List.length (F.seesR px py l)))), (0, .c (.int .i64 (F.seesE px py l))), (4, .c (.own 5 (List.length w))), (0, .c (.int .i64 d)), (87, .c (.int .i64 d)), (2, .c (.slc 0 0 (List.length l) l_t)), (0, .c (.int .i64 (Int.ofNat (List.length l)))), (0, .c (.int .i64 (k + 1)))], [.inp 2 l, .blk [.int .i64 px, .int .i64 py] 62, .arr 2 [(1, 0, 0, 5, 1, 1)] 66, .own 0 (F.seesR 3 4 [(1, 0, 0, 5, 1, 1)]) 3, .own 0 (F.seesR px py l) 3, .own 0 w 3]⟩)))))) (
 .need (i64ok (d + 1)) (
 .ret (.cut (cutAt Try.f7 23) ⟨tmG 37 [(0, .c (.slc 0 0 (List.length l) l_t)), (2, .c (.ptr 1 0 0)), (3, .c (.own 4 (List.length (F.seesR px py l)))), (0, .c (.int .i64 (F.seesE px py l))), (4, .c (.own 5 (List.length w))), (88, .c (.int .i64 (d + 1)))], [.inp 2 l, .blk [.int .i64 px, .int .i64 py] 62, .arr 2 [(1, 0, 0, 5, 1, 1)] 66, .own 0 (F.seesR 3 4 [(1, 0, 0, 5, 1, 1)]) 3, .own 0 (F.seesR px py l) 3, .own 0 w 3]⟩))) := by kernel_rfl



def mlE : SV := .c (.bool true)
theorem law_row (l : List F.C6) (l_t : Bool) (px py : Int) (hz : F.mchk l = 0) (hp : l = [] ∨ F.placed px py = true) (b0 : Base) (hb0 : b0.n = 1) (d : Int) (hd0 : 0 ≤ d ∧ d < 256) (W TL : List Int) (hW : W.length ≤ 4)
    (hout : ∀ w, W = w ++ TL → Sym.Runs Try.prog b0 (cutAt Try.f7 23) (st_mslaw_23 l l_t px py (d + 1) w) (Sym.Ends Try.prog Try.f7 1 mlE [])) :
    ∀ (m : Nat) (k : Int) (w : List Int), 0 ≤ k → k + m = l.length → W = w ++ ((((l.drop k.toNat).filter (F.cov6 px py)).filter fun x => decide (x.1 = d)).map (·.1) ++ TL) →
    Sym.Runs Try.prog b0 (cutAt Try.f7 26) (st_mslaw_26 l l_t px py d k w) (Sym.Ends Try.prog Try.f7 1 mlE []) := by
  have h4 := (mchk_zero hz).1
  intro m
  induction m with
  | zero =>
    intro k w h0 hm hw
    have k1 : ¬ k < (l.length : Int) := by omega
    have k2 : i64ok (d + 1) := by unfold i64ok; omega
    rw [drop_end l k1, List.filter_nil, List.filter_nil, List.map_nil, List.nil_append] at hw
    refine Runs.go (cfg := C_sameI) L_sameI_ok mixed cuts_mslaw 400 hb0 (mslaw_t26 l l_t px py d k w) ?_
    simp only [T.wp, T.wp_cond, Aft, Int.ofNat_eq_natCast, decide_eq_true_eq, and_true, true_and, Nat.zero_add, Bool.not_eq_true', decide_eq_false_iff_not, k1, k2, if_false]
    exact hout w hw
  | succ m ih =>
    intro k w h0 hm hw
    have k1 : k < (l.length : Int) := by omega
    have k2 : k.toNat < l.length := by omega
    have k3 : i64ok (k + 1) := by unfold i64ok; omega
    have hd : (cod 2).d = F.d6 := rfl
    have e1 : F.site6 (l.getD k.toNat F.d6) = 0 := (mchk_zero hz).2 _ k2
    have hpl : F.placed px py = true := hp.resolve_left (fun e => by rw [e] at k2; simp at k2)
    obtain ⟨_, s2, s3, s4⟩ := site6_zero e1
    obtain ⟨p1, p2⟩ := placed_bd hpl
    have w1 : F.b9 (l.getD k.toNat F.d6).2.1 := by unfold F.b9; omega
    have w2 : F.b9 (l.getD k.toNat F.d6).2.2.1 := by unfold F.b9; omega
    have w3 : F.b9 px := by unfold F.b9; omega
    have w4 : F.b9 py := by unfold F.b9; omega
    have w5 := sq_bd (x := (l.getD k.toNat F.d6).2.2.2.1) (a := 1000000) (by omega)
    have w6 : i64ok ((l.getD k.toNat F.d6).2.2.2.1 * (l.getD k.toNat F.d6).2.2.2.1) := by unfold i64ok; omega
    have hc := cov6_iff e1 hpl
    have hwl : w.length ≤ 4 := by
      have := congrArg List.length hw
      rw [List.length_append] at this
      omega
    have w7 : w.length + 1 ≤ 1000000 := by omega
    rw [drop_at l F.d6 h0 k1, List.filter_cons, hc] at hw
    have nx := ih (k + 1)
    refine Runs.go (cfg := C_sameI) L_sameI_ok mixed cuts_mslaw 400 hb0 (mslaw_t26 l l_t px py d k w) ?_
    simp only [T.wp, T.wp_cond, Aft, Int.ofNat_eq_natCast, decide_eq_true_eq, and_true, true_and, Nat.zero_add, Bool.not_eq_true', decide_eq_false_iff_not, h0, k1, k2, k3, hd, w1, w2, w3, w4, w6, w7, if_true]
    by_cases q1 : (l.getD k.toNat F.d6).1 = d
    · rw [if_pos q1]
      by_cases q2 : F.far (l.getD k.toNat F.d6).2.1 (l.getD k.toNat F.d6).2.2.1 px py ≤ (l.getD k.toNat F.d6).2.2.2.1 * (l.getD k.toNat F.d6).2.2.2.1
      · rw [if_pos q2]
        rw [if_pos (decide_eq_true q2), List.filter_cons, if_pos (decide_eq_true q1), List.map_cons, q1] at hw
        have := nx (w ++ [d]) (by omega) (by omega) (by rw [hw]; simp)
        rw [st_mslaw_26, List.length_append, List.length_singleton] at this
        exact this
      · rw [if_neg q2]
        rw [if_neg (fun h => q2 (of_decide_eq_true h))] at hw
        exact nx w (by omega) (by omega) hw
    · rw [if_neg q1]
      have hw' : W = w ++ ((((l.drop (k + 1).toNat).filter (F.cov6 px py)).filter fun x => decide (x.1 = d)).map (·.1) ++ TL) := by
        split at hw
        · rw [List.filter_cons, if_neg (fun h => q1 (of_decide_eq_true h))] at hw
          exact hw
        · exact hw
      exact nx w (by omega) (by omega) hw'
theorem law_id (l : List F.C6) (l_t : Bool) (px py : Int) (hz : F.mchk l = 0) (hp : l = [] ∨ F.placed px py = true) (b0 : Base) (hb0 : b0.n = 1) :
    ∀ (m : Nat) (d : Int) (w : List Int), 0 ≤ d → d + m = 256 → F.sortI (F.seesL px py l) = w ++ F.wantN (l.filter (F.cov6 px py)) m d →
    Sym.Runs Try.prog b0 (cutAt Try.f7 23) (st_mslaw_23 l l_t px py d w) (Sym.Ends Try.prog Try.f7 1 mlE []) := by
  have h4 := (mchk_zero hz).1
  have hE : F.seesE px py l = 0 := by
    unfold F.seesE
    rw [if_neg (fun h => h hz)]
    rcases hp with hp | hp
    · rw [if_pos hp]
    · split
      · rfl
      · first | rfl | (rw [hp]; rfl) | simp [hp]
  have hR : F.seesR px py l = F.sortI (F.seesL px py l) := by unfold F.seesR; rw [if_pos hE]
  have hlen : (F.sortI (F.seesL px py l)).length ≤ 4 := by
    rw [sortI_len]
    unfold F.seesL
    rw [List.length_map]
    exact Nat.le_trans (List.length_filter_le _ _) h4
  intro m
  induction m with
  | zero =>
    intro d w h0 hm hw
    have k1 : ¬ d < 256 := by omega
    rw [F.wantN, List.append_nil] at hw
    have k2 : w.length ≤ 1000000 := by rw [← hw]; omega
    refine Runs.go (cfg := C_sameI) L_sameI_ok mixed cuts_mslaw 400 hb0 (mslaw_t23 l l_t px py d w) ?_
    simp only [T.wp, T.wp_cond, Aft, Int.ofNat_eq_natCast, decide_eq_true_eq, and_true, true_and, Nat.zero_add, Bool.not_eq_true', decide_eq_false_iff_not, k1, if_false, hE, hR, if_true, hw, k2]
    simp [F.same, mlE]
  | succ m ih =>
    intro d w h0 hm hw
    have k1 : d < 256 := by omega
    refine Runs.go (cfg := C_sameI) L_sameI_ok mixed cuts_mslaw 400 hb0 (mslaw_t23 l l_t px py d w) ?_
    simp only [T.wp, T.wp_cond, Aft, Int.ofNat_eq_natCast, decide_eq_true_eq, and_true, true_and, Nat.zero_add, Bool.not_eq_true', decide_eq_false_iff_not, k1, if_true]
    rw [F.wantN] at hw
    exact law_row l l_t px py hz hp b0 hb0 d ⟨h0, k1⟩ _ (F.wantN (l.filter (F.cov6 px py)) m (d + 1)) hlen (fun w' hw' => ih (d + 1) w' (by omega) (by omega) hw') l.length 0 w (by omega) (by omega) hw
theorem law_in (l : List F.C6) (l_t : Bool) (px py : Int) (h4 : l.length ≤ 4) (b0 : Base) (hb0 : b0.n = 1) (i : Int) (hi : 0 ≤ i ∧ i < l.length)
    (htwo : (l.take i.toNat).any (F.sid (l.getD i.toNat F.d6).1) = true → F.mchk l = 7)
    (hout : (l.take i.toNat).any (F.sid (l.getD i.toNat F.d6).1) = false → Sym.Runs Try.prog b0 (cutAt Try.f7 8) (st_mslaw_8 l l_t px py (i + 1)) (Sym.Ends Try.prog Try.f7 1 mlE [])) :
    ∀ (m : Nat) (k : Int), 0 ≤ k → k + m = i → (l.take i.toNat).any (F.sid (l.getD i.toNat F.d6).1) = ((l.drop k.toNat).take m).any (F.sid (l.getD i.toNat F.d6).1) →
    Sym.Runs Try.prog b0 (cutAt Try.f7 13) (st_mslaw_13 l l_t px py i k) (Sym.Ends Try.prog Try.f7 1 mlE []) := by
  intro m
  induction m with
  | zero =>
    intro k h0 hm hD
    rw [List.take_zero, List.any_nil] at hD
    have k1 : ¬ k < ((i.toNat : Nat) : Int) := by omega
    have k2 : i64ok (i + 1) := by unfold i64ok; omega
    refine Runs.go (cfg := C_sameI) L_sameI_ok mixed cuts_mslaw 400 hb0 (mslaw_t13 l l_t px py i k) ?_
    simp only [T.wp, T.wp_cond, Aft, Int.ofNat_eq_natCast, decide_eq_true_eq, and_true, true_and, Nat.zero_add, Bool.not_eq_true', decide_eq_false_iff_not, k1, k2, if_false]
    exact hout hD
  | succ m ih =>
    intro k h0 hm hD
    have k1 : k < ((i.toNat : Nat) : Int) := by omega
    have k2 : k.toNat < l.length := by omega
    have k3 : i64ok (k + 1) := by unfold i64ok; omega
    have k4 : (k + 1).toNat = k.toNat + 1 := by omega
    have hd : (cod 2).d = F.d6 := rfl
    have g1 : l.getD k.toNat F.d6 = l[k.toNat] := by simp [List.getD, List.getElem?_eq_getElem k2]
    have nx := ih (k + 1) (by omega) (by omega)
    rw [List.drop_eq_getElem_cons k2, List.take_succ_cons, List.any_cons, ← g1] at hD
    rw [k4] at nx
    refine Runs.go (cfg := C_sameI) L_sameI_ok mixed cuts_mslaw 400 hb0 (mslaw_t13 l l_t px py i k) ?_
    simp only [T.wp, T.wp_cond, Aft, Int.ofNat_eq_natCast, decide_eq_true_eq, and_true, true_and, Nat.zero_add, Bool.not_eq_true', decide_eq_false_iff_not, h0, k1, k2, k3, hd, if_true]
    by_cases q : (l.getD i.toNat F.d6).1 = (l.getD k.toNat F.d6).1
    · have q' : F.sid (l.getD i.toNat F.d6).1 (l.getD k.toNat F.d6) = true := decide_eq_true q.symm
      rw [q', Bool.true_or] at hD
      have e7 := htwo hD
      have hE : F.seesE px py l = 7 := by unfold F.seesE; rw [if_pos (by omega), e7]
      have hR : F.seesR px py l = [] := by unfold F.seesR; rw [if_neg (by omega)]
      rw [if_pos q, hE, hR]
      simp [mlE]
    · have q' : F.sid (l.getD i.toNat F.d6).1 (l.getD k.toNat F.d6) = false := decide_eq_false (fun h => q h.symm)
      rw [q', Bool.false_or] at hD
      rw [if_neg q]
      exact nx hD
theorem law_out (l : List F.C6) (l_t : Bool) (px py : Int) (h4 : l.length ≤ 4) (b0 : Base) (hb0 : b0.n = 1) : ∀ (m : Nat) (i : Int), 0 ≤ i → i + m = l.length → F.mchk l = F.mck l m i.toNat →
    Sym.Runs Try.prog b0 (cutAt Try.f7 8) (st_mslaw_8 l l_t px py i) (Sym.Ends Try.prog Try.f7 1 mlE []) := by
  intro m
  induction m with
  | zero =>
    intro i h0 hm hM
    have hz : F.mchk l = 0 := hM
    have k1 : ¬ i < (l.length : Int) := by omega
    refine Runs.go (cfg := C_sameI) L_sameI_ok mixed cuts_mslaw 400 hb0 (mslaw_t8 l l_t px py i) ?_
    simp only [T.wp, T.wp_cond, Aft, Int.ofNat_eq_natCast, decide_eq_true_eq, and_true, true_and, Nat.zero_add, Bool.not_eq_true', decide_eq_false_iff_not, k1, if_false]
    by_cases hl : l = []
    · have k2 : ¬ (0 : Int) < l.length := by rw [hl]; simp
      rw [if_neg k2]
      exact law_id l l_t px py hz (.inl hl) b0 hb0 256 0 [] (by omega) (by omega) (want_all hz)
    · have k2 : (0 : Int) < l.length := by
        have := List.length_pos_iff.2 hl
        omega
      rw [if_pos k2]
      cases hp : F.placed px py
      · have hE : F.seesE px py l = 4 := by unfold F.seesE; rw [if_neg (fun h => h hz), if_neg hl, hp]; rfl
        have hR : F.seesR px py l = [] := by unfold F.seesR; rw [if_neg (by omega)]
        simp [hE, hR, mlE]
      · simp only [Bool.true_eq_false, if_false]
        exact law_id l l_t px py hz (.inr hp) b0 hb0 256 0 [] (by omega) (by omega) (want_all hz)
  | succ m ih =>
    intro i h0 hm hM
    have k1 : i < (l.length : Int) := by omega
    have k2 : i.toNat < l.length := by omega
    have k3 : i ≤ (l.length : Int) := by omega
    have k4 : (i + 1).toNat = i.toNat + 1 := by omega
    have hd : (cod 2).d = F.d6 := rfl
    rw [F.mck] at hM
    have e1 : F.site (l.getD i.toNat F.d6).1 (l.getD i.toNat F.d6).2.1 (l.getD i.toNat F.d6).2.2.1 (l.getD i.toNat F.d6).2.2.2.1 (l.getD i.toNat F.d6).2.2.2.2.1 (l.getD i.toNat F.d6).2.2.2.2.2 = F.site6 (l.getD i.toNat F.d6) := rfl
    have nx := ih (i + 1) (by omega) (by omega)
    rw [k4] at nx
    refine Runs.go (cfg := C_sameI) L_sameI_ok mixed cuts_mslaw 400 hb0 (mslaw_t8 l l_t px py i) ?_
    simp only [T.wp, T.wp_cond, Aft, Int.ofNat_eq_natCast, decide_eq_true_eq, and_true, true_and, Nat.zero_add, Bool.not_eq_true', decide_eq_false_iff_not, h0, k1, k2, k3, hd, e1, if_true]
    by_cases q : F.site6 (l.getD i.toNat F.d6) = 0
    · rw [if_neg (fun h => h q)] at hM ⊢
      refine law_in l l_t px py h4 b0 hb0 i ⟨h0, k1⟩ (fun ha => ?_) (fun ha => ?_) i.toNat 0 (by omega) (by omega) rfl
      · rw [hM, ha, if_pos rfl]
      · rw [ha, if_neg (by simp)] at hM
        exact nx hM
    · rw [if_pos q] at hM ⊢
      have e4 : F.site6 (l.getD i.toNat F.d6) = 4 := site_four q
      rw [e4] at hM
      have hE : F.seesE px py l = 4 := by unfold F.seesE; rw [if_pos (by omega), hM]
      have hR : F.seesR px py l = [] := by unfold F.seesR; rw [if_neg (by omega)]
      simp [hE, hR, mlE]
theorem mslaw_run (l : List (Int × Int × Int × Int × Int × Int)) (l_t : Bool) (px py : Int) (b0 : Base) (hb : b0.n = 1)  : Sym.Runs Try.prog b0 [.code (codeOf Try.f7)] ⟨argsS Try.f7 [.c (.slc 0 0 (List.length l) l_t), .agg [.int .i64 px, .int .i64 py]], ([.inp 2 l] : Heap cod)⟩ (Sym.Ends Try.prog Try.f7 1 (.c (.bool true)) []) := by
  refine Runs.go (cfg := C_sameI) L_sameI_ok mixed cuts_mslaw 400 hb (mslaw_t0 l l_t px py) ?_
  by_cases h4 : 4 < l.length
  · have h5 : (4 : Int) < l.length := by omega
    have hM : F.mchk l = 2 := by unfold F.mchk; rw [if_pos h4]
    have hE : F.seesE px py l = 2 := by unfold F.seesE; rw [if_pos (by omega), hM]
    simp [T.wp, T.wp_cond, Aft, Int.ofNat_eq_natCast, decide_eq_true_eq, and_true, true_and, Nat.zero_add, Bool.not_eq_true', decide_eq_false_iff_not, h5, hE]
  · have h5 : ¬ (4 : Int) < l.length := by omega
    simp only [T.wp, T.wp_cond, Aft, Int.ofNat_eq_natCast, decide_eq_true_eq, and_true, true_and, Nat.zero_add, Bool.not_eq_true', decide_eq_false_iff_not, h5, if_false]
    refine ⟨by omega, by omega, ?_⟩
    exact law_out l l_t px py (by omega) b0 hb l.length 0 (by omega) (by omega) (by unfold F.mchk; rw [if_neg h4]; rfl)



noncomputable def s_mslaw : Summ cod := fun args H => match args, H with
  | [.c (.slc 0 l_i l_n l_t), .agg [.int .i64 px, .int .i64 py]], [o0] => (match o0.asInp 2 with | some l => .need ((l_i = 0 ∧ l_n = List.length l)) (.ret (.c (.bool true), [])) | none => .fail)
  | _, _ => .fail


theorem mslaw_sound : Sound Try.prog cod 7 s_mslaw := sound_runs (cfg := C_sameI) L_sameI_ok mixed Try.func7 rfl rfl _ fun args H r news hg b0 hb => by
  unfold s_mslaw at hg
  split at hg
  · skip
    split at hg
    · rename_i l hx0
      cases asInp_spec hx0
      simp only [T.gives, T.wp, Prod.mk.injEq] at hg
      obtain ⟨⟨rfl, rfl⟩, rfl, rfl⟩ := hg
      exact mslaw_run _ _ _ _ b0 hb 
    · exact hg.elim
  · exact hg.elim

noncomputable def L_mslaw : Sums cod := (7, .p s_mslaw) :: L_sameI
noncomputable def C_mslaw : Cfg cod := mkC L_mslaw

theorem L_mslaw_ok : Snd Try.prog cod L_mslaw := .cons mslaw_sound L_sameI_ok


end
end Go.Proofs.Ytbkpgpkeecnjpaa
