/- Part of a claim: lemmas on the way to its theorem; each states its own conditions. -/
import Derived.Test.YtffcfbamcaoidaaGp
namespace Go.Proofs.Ytffcfbamcaoidaa
open Sym Go.RowKit
noncomputable section
set_option maxRecDepth 100000
set_option maxHeartbeats 4000000



theorem F.set_rep (v : Int) (w : List Int) : ∀ c : Nat, List.set (List.replicate (c + 1) 0 ++ w) c v = List.replicate c 0 ++ v :: w
  | 0 => rfl
  | c + 1 => by
    have := F.set_rep v w c
    rw [List.replicate_succ, List.cons_append, List.set_cons_succ, this]
    rfl
theorem F.pow8 {t : Nat} (h : t ≤ 3) : 8 ^ t ≤ 512 := by
  have : t = 0 ∨ t = 1 ∨ t = 2 ∨ t = 3 := by omega
  rcases this with rfl | rfl | rfl | rfl <;> decide
namespace F
def q64 (l : List Q4) : Prop := ∀ x ∈ l, i64ok x.1 ∧ i64ok x.2.1 ∧ i64ok x.2.2.1 ∧ i64ok x.2.2.2
def small (x : Q4) : Prop := (1 ≤ x.2.2.1 ∧ x.2.2.1 ≤ 6) ∧ (1 ≤ x.2.2.2 ∧ x.2.2.2 ≤ 6)
def setW (ts : List Q4) (k : Nat) : List Q4 := List.set ts k ((ts.getD k q0).1, (ts.getD k q0).2.1, rcut (ts.getD k q0).2.2.1 1 6, (ts.getD k q0).2.2.2)
def setH (ts : List Q4) (k : Nat) (h : Int) : List Q4 := List.set ts k ((ts.getD k q0).1, (ts.getD k q0).2.1, (ts.getD k q0).2.2.1, rcut h 1 6)
theorem rcut_bd (n : Int) : 1 ≤ rcut n 1 6 ∧ rcut n 1 6 ≤ 6 := by unfold rcut; omega
theorem setWH {ts : List Q4} {k : Nat} (h : k < ts.length) : setH (setW ts k) k (ts.getD k q0).2.2.2 = ts.set k ((ts.getD k q0).1, (ts.getD k q0).2.1, rcut (ts.getD k q0).2.2.1 1 6, rcut (ts.getD k q0).2.2.2 1 6) := by
  unfold setH
  have e : (setW ts k).getD k q0 = ((ts.getD k q0).1, (ts.getD k q0).2.1, rcut (ts.getD k q0).2.2.1 1 6, (ts.getD k q0).2.2.2) := by
    unfold setW
    simp [List.getD, h]
  rw [e]
  unfold setW
  rw [List.set_set]
theorem q64_set {ts : List Q4} {k : Nat} (hq : q64 ts) (h : k < ts.length) : q64 (setH (setW ts k) k (ts.getD k q0).2.2.2) := by
  rw [setWH h]
  have hx := hq (ts.getD k q0) (by rw [List.getD, List.getElem?_eq_getElem h]; exact List.getElem_mem h)
  intro x hm
  rcases List.mem_or_eq_of_mem_set hm with hm | rfl
  · exact hq x hm
  · have b1 := rcut_bd (ts.getD k q0).2.2.1
    have b2 := rcut_bd (ts.getD k q0).2.2.2
    exact ⟨hx.1, hx.2.1, by show i64ok (rcut _ 1 6); unfold i64ok; omega, by show i64ok (rcut _ 1 6); unfold i64ok; omega⟩
theorem small_set {ts : List Q4} {k : Nat} (h : k < ts.length) (hs : ∀ j, j < k → small (ts.getD j q0)) : ∀ j, j < k + 1 → small ((setH (setW ts k) k (ts.getD k q0).2.2.2).getD j q0) := by
  rw [setWH h]
  intro j hj
  by_cases e : j = k
  · subst e
    simp only [List.getD, List.getElem?_set_self h, Option.getD_some]
    exact ⟨rcut_bd _, rcut_bd _⟩
  · have : (ts.set k ((ts.getD k q0).1, (ts.getD k q0).2.1, rcut (ts.getD k q0).2.2.1 1 6, rcut (ts.getD k q0).2.2.2 1 6)).getD j q0 = ts.getD j q0 := by
      simp only [List.getD, List.getElem?_set_ne (Ne.symm e)]
    rw [this]
    exact hs j (by omega)
theorem fact_B : placeB [(0, 0, 2, 2), (9, 9, 2, 2)] = true := by decide
end F


def cuts_lplaw : Cuts := [(6, [0, 36, 37], 5), (16, [6, 7, 0, 79, 80, 9], 6), (20, [6, 7, 0, 85, 86], 6), (24, [11, 6, 7, 0, 85, 86, 12, 13], 7)]

theorem lplaw_t0 (l : List (Int × Int × Int × Int)) (l_t : Bool) : symF C_fit cuts_lplaw Try.f7.results.toList 1 400 [.code (codeOf Try.f7)] ⟨argsS Try.f7 [.c (.slc 0 0 (List.length l) l_t)], ([.inp 4 l] : Heap cod)⟩ =
.need (((0 = 0 ∧ 2 = 2) ∧ F.l64 [(0, 0, 2, 2), (9, 9, 2, 2)])) (
.ite (F.placeB [(0, 0, 2, 2), (9, 9, 2, 2)]) (
 .need (((0 = 0 ∧ 2 = 2) ∧ ((0 = 0 ∧ 2 = 2) ∧ (Int.ofNat 2 : Int) ≤ 1000000))) (
 .need (((0 : Int) ≤ min (Int.ofNat (List.length l)) 3 ∧ min (Int.ofNat (List.length l)) 3 ≤ Int.ofNat (List.length l))) (
 .ite (decide (Int.toNat (min (Int.ofNat (List.length l)) 3) = 0)) (
  .need (Int.toNat (min (Int.ofNat (List.length l)) 3) = 0) (
  .ret (.cut (cutAt Try.f7 6) ⟨tmG 87 [(0, .c (.slc 0 0 0 true)), (35, .c (.int .i64 (Int.ofNat 0))), (0, .c (.int .i64 0))], [.inp 4 l, .arr 4 ([(0, 0, 2, 2), (9, 9, 2, 2)]) 63, .own 0 (F.placeR [(0, 0, 2, 2), (9, 9, 2, 2)]) 3, .arr 0 ([0, 0] : List Int) 3]⟩))) (
  .need ((0 + Int.toNat (min (Int.ofNat (List.length l)) 3) ≤ List.length l ∧ ((0 : Nat) < Int.toNat (min (Int.ofNat (List.length l)) 3) ∧ Int.toNat (min (Int.ofNat (List.length l)) 3) ≤ 1000000))) (
  .ret (.cut (cutAt Try.f7 6) ⟨tmG 87 [(0, .c (.own 4 (Int.toNat (min (Int.ofNat (List.length l)) 3)))), (35, .c (.int .i64 (Int.ofNat (Int.toNat (min (Int.ofNat (List.length l)) 3))))), (0, .c (.int .i64 0))], [.inp 4 l, .arr 4 ([(0, 0, 2, 2), (9, 9, 2, 2)]) 63, .own 0 (F.placeR [(0, 0, 2, 2), (9, 9, 2, 2)]) 3, .arr 0 ([0, 0] : List Int) 3, .own 4 (List.take (Int.toNat (min (Int.ofNat (List.length l)) 3)) (List.drop 0 l)) 63]⟩)))))) (
 .ret (.fin (.c (.bool false)) []))) := by kernel_rfl


noncomputable def st_lplaw_6 (l : List (Int × Int × Int × Int)) (l_t : Bool) (fa : List (Int × Int × Int × Int)) (fr fz : List Int) (ts : List (Int × Int × Int × Int)) (tn : Nat) (k : Int) : St cod := ⟨tmG 87 [(0, .c (.own 4 tn)), (35, .c (.int .i64 tn)), (0, .c (.int .i64 k))], ([.inp 4 l, .arr 4 fa 63, .own 0 fr 3, .arr 0 fz 3, .own 4 ts 63] : Heap cod)⟩


theorem lplaw_t6 (l : List (Int × Int × Int × Int)) (l_t : Bool) (fa : List (Int × Int × Int × Int)) (fr fz : List Int) (ts : List (Int × Int × Int × Int)) (tn : Nat) (k : Int) : symF C_fit cuts_lplaw Try.f7.results.toList 1 400 (cutAt Try.f7 6) (st_lplaw_6 l l_t fa fr fz ts tn k) =
 cond (decide (k < Int.ofNat tn)) (
 .need (((0 : Int) ≤ k ∧ k < Int.ofNat tn)) (
 .need (0 + Int.toNat k < List.length ts) (
 .need (((0 : Int) ≤ 1 ∧ ((1 : Int) ≤ 6 ∧ ((6 : Int) ≤ 100000 ∧ i64ok (List.getD ts (0 + Int.toNat k) (cod 4).d).2.2.1)))) (
 .need (((0 : Int) ≤ k ∧ k < Int.ofNat tn)) (
 .need (0 + Int.toNat k < List.length ts) (
 .need (((0 : Int) ≤ 1 ∧ ((1 : Int) ≤ 6 ∧ ((6 : Int) ≤ 100000 ∧ i64ok (List.getD ts (0 + Int.toNat k) (cod 4).d).2.2.2)))) (
 .need (((0 : Int) ≤ k ∧ k < Int.ofNat tn)) (
 .need (0 + Int.toNat k < List.length ts) (
 .need (((0 : Int) ≤ k ∧ k < Int.ofNat tn)) (
 .need (0 + Int.toNat k <   List.length     (List.set ts (0 + Int.toNat k)       ((List.getD ts (0 + Int.toNat k) (cod 4).d).1, (List.getD ts (0 + Int.toNat k) (cod 4).d).2.1,         F.rcut (List.getD ts (0 + Int.toNat k) (cod 4).d).2.2.1 1 6, (List.getD ts (0 + Int.toNat k) (cod 4).d).2.2.2))) (
 .need (i64ok (k + 1)) (
 .ret (.cut (cutAt Try.f7 6) ⟨tmG 87 [(0, .c (.own 4 (tn))), (35, .c (.int .i64 (Int.ofNat tn))), (0, .c (.int .i64 (k + 1)))], [.inp 4 l, .arr 4 fa 63, .own 0 fr 3, .arr 0 fz 3, .own 4 (List.set   (List.set ts (0 + Int.toNat k)     ((List.getD ts (0 + Int.toNat k) (cod 4).d).1, (List.getD ts (0 + Int.toNat k) (cod 4).d).2.1,       F.rcut (List.getD ts (0 + Int.toNat k) (cod 4).d).2.2.1 1 6, (List.getD ts (0 + Int.toNat k) (cod 4).d).2.2.2))   (0 + Int.toNat k)   ((List.getD         (List.set ts (0 + Int.toNat k)           ((List.getD ts (0 + Int.toNat k) (cod 4).d).1, (List.getD ts (0 + Int.toNat k) (cod 4).d).2.1,             F.rcut (List.getD ts (0 + Int.toNat k) (cod 4).d).2.2.1 1 6,             (List.getD ts (0 + Int.toNat k) (cod 4).d).2.2.2))         (0 + Int.toNat k) (cod 4).d).1,     (List.getD           (List.set ts (0 + Int.toNat k)             ((List.getD ts (0 + Int.toNat k) (cod 4).d).1, (List.getD ts (0 + Int.toNat k) (cod 4).d).2.1,               F.rcut (List.getD ts (0 + Int.toNat k) (cod 4).d).2.2.1 1 6,               (List.getD ts (0 + Int.toNat k) (cod 4).d).2.2.2))           (0 + Int.toNat k) (cod 4).d).2.1,     (List.getD             (List.set ts (0 + Int.toNat k)               ((List.getD ts (0 + Int.toNat k) (cod 4).d).1, (List.getD ts (0 + Int.toNat k) (cod 4).d).2.1,                 F.rcut (List.getD ts (0 + Int.toNat k) (cod 4).d).2.2.1 1 6,                 (List.getD ts (0 + Int.toNat k) (cod 4).d).2.2.2))             (0 + Int.toNat k) (cod 4).d).2.2.1,     F.rcut (List.getD ts (0 + Int.toNat k) (cod 4).d).2.2.2 1 6)) 63]⟩))))))))))))) (
 .need (((0 = 0 ∧ tn = List.length ts) ∧ F.l64 ts)) (
 .ite (F.placeB ts) (
  .need ((0 = 0 ∧ tn = List.length ts)) (
  cond (!decide (F.lchk ts = 0)) (
   cond (decide (0 = F.lchk ts)) (
    .ret (.fin (.c (.bool (decide (Int.ofNat (List.length (F.placeR ts)) = 0)))) [])) (
    .ret (.fin (.c (.bool false)) []))) (
   .ret (.cut (cutAt Try.f7 16) ⟨tmG 44 [(0, .c (.own 4 (tn))), (5, .c (.slc 5 0 (List.length (F.placeR ts)) false)), (0, .c (.int .i64 0)), (1, .c (.int .i64 1)), (69, .c (.int .i64 (Int.ofNat tn))), (0, .c (.int .i64 0))], [.inp 4 l, .arr 4 fa 63, .own 0 fr 3, .arr 0 fz 3, .own 4 ts 63, .own 0 (F.placeR ts) 3]⟩)))) (
  .need ((0 = 0 ∧ tn = List.length ts)) (
  cond (!decide (F.lchk ts = 0)) (
   cond (decide (F.placeE ts = F.lchk ts)) (
    .ret (.fin (.c (.bool (decide (Int.ofNat 0 = 0)))) [])) (
    .ret (.fin (.c (.bool false)) []))) (
   .ret (.cut (cutAt Try.f7 16) ⟨tmG 44 [(0, .c (.own 4 (tn))), (5, .c (.own 5 0)), (0, .c (.int .i64 (F.placeE ts))), (1, .c (.int .i64 1)), (69, .c (.int .i64 (Int.ofNat tn))), (0, .c (.int .i64 0))], [.inp 4 l, .arr 4 fa 63, .own 0 fr 3, .arr 0 fz 3, .own 4 ts 63, .own 0 [] 3]⟩)))))) := by kernel_rfl


noncomputable def st_lplaw_16 (l : List (Int × Int × Int × Int)) (l_t : Bool) (fa : List (Int × Int × Int × Int)) (fr fz : List Int) (ts : List (Int × Int × Int × Int)) (tn : Nat) (r : List Int) (i all : Int) : St cod := ⟨tmG 44 [(0, .c (.own 4 tn)), (5, .c (.slc 5 0 (List.length r) false)), (0, .c (.int .i64 0)), (1, .c (.int .i64 all)), (69, .c (.int .i64 tn)), (0, .c (.int .i64 i))], ([.inp 4 l, .arr 4 fa 63, .own 0 fr 3, .arr 0 fz 3, .own 4 ts 63, .own 0 r 3] : Heap cod)⟩


theorem lplaw_t16 (l : List (Int × Int × Int × Int)) (l_t : Bool) (fa : List (Int × Int × Int × Int)) (fr fz : List Int) (ts : List (Int × Int × Int × Int)) (tn : Nat) (r : List Int) (i all : Int) : symF C_fit cuts_lplaw Try.f7.results.toList 1 400 (cutAt Try.f7 16) (st_lplaw_16 l l_t fa fr fz ts tn r i all) =
 cond (decide (i < Int.ofNat tn)) (
 .need (i64ok (all * 8)) (
 .need (i64ok (i + 1)) (
 .ret (.cut (cutAt Try.f7 16) ⟨tmG 44 [(0, .c (.own 4 (tn))), (5, .c (.slc 5 0 (List.length r) false)), (0, .c (.int .i64 0)), (1, .c (.int .i64 (all * 8))), (69, .c (.int .i64 (Int.ofNat tn))), (0, .c (.int .i64 (i + 1)))], [.inp 4 l, .arr 4 fa 63, .own 0 fr 3, .arr 0 fz 3, .own 4 ts 63, .own 0 r 3]⟩)))) (
 .ret (.cut (cutAt Try.f7 20) ⟨tmG 38 [(0, .c (.own 4 (tn))), (5, .c (.slc 5 0 (List.length r) false)), (0, .c (.int .i64 0)), (77, .c (.int .i64 all)), (0, .c (.int .i64 0))], [.inp 4 l, .arr 4 fa 63, .own 0 fr 3, .arr 0 fz 3, .own 4 ts 63, .own 0 r 3]⟩)) := by kernel_rfl


noncomputable def st_lplaw_20 (l : List (Int × Int × Int × Int)) (l_t : Bool) (fa : List (Int × Int × Int × Int)) (fr fz : List Int) (ts : List (Int × Int × Int × Int)) (tn : Nat) (r : List Int) (all n : Int) : St cod := ⟨tmG 38 [(0, .c (.own 4 tn)), (5, .c (.slc 5 0 (List.length r) false)), (0, .c (.int .i64 0)), (77, .c (.int .i64 all)), (0, .c (.int .i64 n))], ([.inp 4 l, .arr 4 fa 63, .own 0 fr 3, .arr 0 fz 3, .own 4 ts 63, .own 0 r 3] : Heap cod)⟩


theorem lplaw_t20 (l : List (Int × Int × Int × Int)) (l_t : Bool) (fa : List (Int × Int × Int × Int)) (fr fz : List Int) (ts : List (Int × Int × Int × Int)) (tn : Nat) (r : List Int) (all n : Int) : symF C_fit cuts_lplaw Try.f7.results.toList 1 400 (cutAt Try.f7 20) (st_lplaw_20 l l_t fa fr fz ts tn r all n) =
 cond (decide (n < all)) (
 .need (((0 : Int) ≤ Int.ofNat tn ∧ (Int.ofNat tn ≤ 1000000 ∧ Int.ofNat tn = Int.ofNat tn))) (
 .need (i64ok (Int.ofNat tn - 1)) (
 .ret (.cut (cutAt Try.f7 24) ⟨tmG 38 [(0, .c (.own 4 (tn))), (5, .c (.slc 5 0 (List.length r) false)), (0, .c (.int .i64 0)), (3, .c (.slc 6 0 (Int.toNat (Int.ofNat tn)) true)), (0, .c (.int .i64 (Int.ofNat tn - 1))), (0, .c (.int .i64 n)), (71, .c (.int .i64 all)), (0, .c (.int .i64 n))], [.inp 4 l, .arr 4 fa 63, .own 0 fr 3, .arr 0 fz 3, .own 4 ts 63, .own 0 r 3, .arr 0 (List.replicate (Int.toNat (Int.ofNat tn)) (0 : Int)) 3]⟩)))) (
 .ret (.fin (.c (.bool false)) [])) := by kernel_rfl


noncomputable def st_lplaw_24 (l : List (Int × Int × Int × Int)) (l_t : Bool) (fa : List (Int × Int × Int × Int)) (fr fz : List Int) (ts : List (Int × Int × Int × Int)) (tn : Nat) (r : List Int) (all n : Int) (sp : List Int) (ln : Nat) (q left : Int) : St cod := ⟨tmG 38 [(0, .c (.own 4 tn)), (5, .c (.slc 5 0 (List.length r) false)), (0, .c (.int .i64 0)), (3, .c (.slc 6 0 ln true)), (0, .c (.int .i64 q)), (0, .c (.int .i64 left)), (71, .c (.int .i64 all)), (0, .c (.int .i64 n))], ([.inp 4 l, .arr 4 fa 63, .own 0 fr 3, .arr 0 fz 3, .own 4 ts 63, .own 0 r 3, .arr 0 sp 3] : Heap cod)⟩


theorem lplaw_t24 (l : List (Int × Int × Int × Int)) (l_t : Bool) (fa : List (Int × Int × Int × Int)) (fr fz : List Int) (ts : List (Int × Int × Int × Int)) (tn : Nat) (r : List Int) (all n : Int) (sp : List Int) (ln : Nat) (q left : Int) : symF C_fit cuts_lplaw Try.f7.results.toList 1 400 (cutAt Try.f7 24) (st_lplaw_24 l l_t fa fr fz ts tn r all n sp ln q left) =
 cond (decide (0 ≤ q)) (
 .need ((8 : Int) ≠ 0) (
 .need (((0 : Int) ≤ q ∧ q < Int.ofNat ln)) (
 .need (0 + Int.toNat q < List.length sp) (
 .need ((8 : Int) ≠ 0) (
 .need (i64ok (Int.tdiv left 8)) (
 .need (i64ok (q - 1)) (
 .ret (.cut (cutAt Try.f7 24) ⟨tmG 38 [(0, .c (.own 4 (tn))), (5, .c (.slc 5 0 (List.length r) false)), (0, .c (.int .i64 0)), (3, .c (.slc 6 0 (ln) true)), (0, .c (.int .i64 (q - 1))), (0, .c (.int .i64 (Int.tdiv left 8))), (71, .c (.int .i64 all)), (0, .c (.int .i64 n))], [.inp 4 l, .arr 4 fa 63, .own 0 fr 3, .arr 0 fz 3, .own 4 ts 63, .own 0 r 3, .arr 0 (List.set sp (0 + Int.toNat q) (Int.tmod left 8)) 3]⟩)))))))) (
 .need (((0 = 0 ∧ tn = List.length ts) ∧ ((0 = 0 ∧ ln = List.length sp) ∧ (List.length sp = List.length ts ∧ (List.length ts ≤ 32 ∧ (F.allok ts ∧ F.spots sp)))))) (
 cond (F.fitL ts sp) (
  .need (((0 = 0 ∧ List.length r = List.length r) ∧ ((0 = 0 ∧ ln = List.length sp) ∧ Int.ofNat (List.length r) ≤ 1000000))) (
  .ret (.fin (.c (.bool (F.eqI r sp))) []))) (
  .need (i64ok (n + 1)) (
  .ret (.cut (cutAt Try.f7 20) ⟨tmG 38 [(0, .c (.own 4 (tn))), (5, .c (.slc 5 0 (List.length r) false)), (0, .c (.int .i64 0)), (77, .c (.int .i64 all)), (0, .c (.int .i64 (n + 1)))], [.inp 4 l, .arr 4 fa 63, .own 0 fr 3, .arr 0 fz 3, .own 4 ts 63, .own 0 r 3]⟩))))) := by kernel_rfl


noncomputable def st_lplaw_16b (l : List (Int × Int × Int × Int)) (l_t : Bool) (fa : List (Int × Int × Int × Int)) (fr fz : List Int) (ts : List (Int × Int × Int × Int)) (tn : Nat) (e : Int) (i all : Int) : St cod := ⟨tmG 44 [(0, .c (.own 4 tn)), (5, .c (.own 5 0)), (0, .c (.int .i64 e)), (1, .c (.int .i64 all)), (69, .c (.int .i64 tn)), (0, .c (.int .i64 i))], ([.inp 4 l, .arr 4 fa 63, .own 0 fr 3, .arr 0 fz 3, .own 4 ts 63, .own 0 [] 3] : Heap cod)⟩


theorem lplaw_t16b (l : List (Int × Int × Int × Int)) (l_t : Bool) (fa : List (Int × Int × Int × Int)) (fr fz : List Int) (ts : List (Int × Int × Int × Int)) (tn : Nat) (e : Int) (i all : Int) : symF C_fit cuts_lplaw Try.f7.results.toList 1 400 (cutAt Try.f7 16) (st_lplaw_16b l l_t fa fr fz ts tn e i all) =
 cond (decide (i < Int.ofNat tn)) (
 .need (i64ok (all * 8)) (
 .need (i64ok (i + 1)) (
 .ret (.cut (cutAt Try.f7 16) ⟨tmG 44 [(0, .c (.own 4 (tn))), (5, .c (.own 5 0)), (0, .c (.int .i64 e)), (1, .c (.int .i64 (all * 8))), (69, .c (.int .i64 (Int.ofNat tn))), (0, .c (.int .i64 (i + 1)))], [.inp 4 l, .arr 4 fa 63, .own 0 fr 3, .arr 0 fz 3, .own 4 ts 63, .own 0 [] 3]⟩)))) (
 .ret (.cut (cutAt Try.f7 20) ⟨tmG 38 [(0, .c (.own 4 (tn))), (5, .c (.own 5 0)), (0, .c (.int .i64 e)), (77, .c (.int .i64 all)), (0, .c (.int .i64 0))], [.inp 4 l, .arr 4 fa 63, .own 0 fr 3, .arr 0 fz 3, .own 4 ts 63, .own 0 [] 3]⟩)) := by kernel_rfl


noncomputable def st_lplaw_20b (l : List (Int × Int × Int × Int)) (l_t : Bool) (fa : List (Int × Int × Int × Int)) (fr fz : List Int) (ts : List (Int × Int × Int × Int)) (tn : Nat) (e : Int) (all n : Int) : St cod := ⟨tmG 38 [(0, .c (.own 4 tn)), (5, .c (.own 5 0)), (0, .c (.int .i64 e)), (77, .c (.int .i64 all)), (0, .c (.int .i64 n))], ([.inp 4 l, .arr 4 fa 63, .own 0 fr 3, .arr 0 fz 3, .own 4 ts 63, .own 0 [] 3] : Heap cod)⟩


theorem lplaw_t20b (l : List (Int × Int × Int × Int)) (l_t : Bool) (fa : List (Int × Int × Int × Int)) (fr fz : List Int) (ts : List (Int × Int × Int × Int)) (tn : Nat) (e : Int) (all n : Int) : symF C_fit cuts_lplaw Try.f7.results.toList 1 400 (cutAt Try.f7 20) (st_lplaw_20b l l_t fa fr fz ts tn e all n) =
 cond (decide (n < all)) (
 .need (((0 : Int) ≤ Int.ofNat tn ∧ (Int.ofNat tn ≤ 1000000 ∧ Int.ofNat tn = Int.ofNat tn))) (
 .need (i64ok (Int.ofNat tn - 1)) (
 .ret (.cut (cutAt Try.f7 24) ⟨tmG 38 [(0, .c (.own 4 (tn))), (5, .c (.own 5 0)), (0, .c (.int .i64 e)), (3, .c (.slc 6 0 (Int.toNat (Int.ofNat tn)) true)), (0, .c (.int .i64 (Int.ofNat tn - 1))), (0, .c (.int .i64 n)), (71, .c (.int .i64 all)), (0, .c (.int .i64 n))], [.inp 4 l, .arr 4 fa 63, .own 0 fr 3, .arr 0 fz 3, .own 4 ts 63, .own 0 [] 3, .arr 0 (List.replicate (Int.toNat (Int.ofNat tn)) (0 : Int)) 3]⟩)))) (
 cond (decide (e = 8)) (
  .ret (.fin (.c (.bool (decide (Int.ofNat 0 = 0)))) [])) (
  .ret (.fin (.c (.bool false)) []))) := by kernel_rfl


noncomputable def st_lplaw_24b (l : List (Int × Int × Int × Int)) (l_t : Bool) (fa : List (Int × Int × Int × Int)) (fr fz : List Int) (ts : List (Int × Int × Int × Int)) (tn : Nat) (e : Int) (all n : Int) (sp : List Int) (ln : Nat) (q left : Int) : St cod := ⟨tmG 38 [(0, .c (.own 4 tn)), (5, .c (.own 5 0)), (0, .c (.int .i64 e)), (3, .c (.slc 6 0 ln true)), (0, .c (.int .i64 q)), (0, .c (.int .i64 left)), (71, .c (.int .i64 all)), (0, .c (.int .i64 n))], ([.inp 4 l, .arr 4 fa 63, .own 0 fr 3, .arr 0 fz 3, .own 4 ts 63, .own 0 [] 3, .arr 0 sp 3] : Heap cod)⟩


theorem lplaw_t24b (l : List (Int × Int × Int × Int)) (l_t : Bool) (fa : List (Int × Int × Int × Int)) (fr fz : List Int) (ts : List (Int × Int × Int × Int)) (tn : Nat) (e : Int) (all n : Int) (sp : List Int) (ln : Nat) (q left : Int) : symF C_fit cuts_lplaw Try.f7.results.toList 1 400 (cutAt Try.f7 24) (st_lplaw_24b l l_t fa fr fz ts tn e all n sp ln q left) =
 cond (decide (0 ≤ q)) (
 .need ((8 : Int) ≠ 0) (
 .need (((0 : Int) ≤ q ∧ q < Int.ofNat ln)) (
 .need (0 + Int.toNat q < List.length sp) (
 .need ((8 : Int) ≠ 0) (
 .need (i64ok (Int.tdiv left 8)) (
 .need (i64ok (q - 1)) (
 .ret (.cut (cutAt Try.f7 24) ⟨tmG 38 [(0, .c (.own 4 (tn))), (5, .c (.own 5 0)), (0, .c (.int .i64 e)), (3, .c (.slc 6 0 (ln) true)), (0, .c (.int .i64 (q - 1))), (0, .c (.int .i64 (Int.tdiv left 8))), (71, .c (.int .i64 all)), (0, .c (.int .i64 n))], [.inp 4 l, .arr 4 fa 63, .own 0 fr 3, .arr 0 fz 3, .own 4 ts 63, .own 0 [] 3, .arr 0 (List.set sp (0 + Int.toNat q) (Int.tmod left 8)) 3]⟩)))))))) (
 .need (((0 = 0 ∧ tn = List.length ts) ∧ ((0 = 0 ∧ ln = List.length sp) ∧ (List.length sp = List.length ts ∧ (List.length ts ≤ 32 ∧ (F.allok ts ∧ F.spots sp)))))) (
 cond (F.fitL ts sp) (
  cond (decide (e = 0)) (
   .need (((0 = 0 ∧ 0 = 0) ∧ ((0 = 0 ∧ ln = List.length sp) ∧ (Int.ofNat 0 : Int) ≤ 1000000))) (
   .ret (.fin (.c (.bool (F.eqI [] sp))) []))) (
   .ret (.fin (.c (.bool false)) []))) (
  .need (i64ok (n + 1)) (
  .ret (.cut (cutAt Try.f7 20) ⟨tmG 38 [(0, .c (.own 4 (tn))), (5, .c (.own 5 0)), (0, .c (.int .i64 e)), (77, .c (.int .i64 all)), (0, .c (.int .i64 (n + 1)))], [.inp 4 l, .arr 4 fa 63, .own 0 fr 3, .arr 0 fz 3, .own 4 ts 63, .own 0 [] 3]⟩))))) := by kernel_rfl


theorem lplaw_tz (l : List (Int × Int × Int × Int)) (fa : List (Int × Int × Int × Int)) (fr fz : List Int) : symF C_fit [] Try.f7.results.toList 1 400 (cutAt Try.f7 6) ⟨tmG 87 [(0, .c (.slc 0 0 0 true)), (35, .c (.int .i64 0)), (0, .c (.int .i64 0))], ([.inp 4 l, .arr 4 fa 63, .own 0 fr 3, .arr 0 fz 3] : Heap cod)⟩ =
.need (((0 = 0 ∧ 0 = List.length l) ∧ F.l64 l)) (
.ite (F.placeB l) (
 .need ((0 = 0 ∧ 0 = List.length l)) (
 cond (!decide (F.lchk l = 0)) (
  cond (decide (0 = F.lchk l)) (
   .ret (.fin (.c (.bool (decide (Int.ofNat (List.length (F.placeR l)) = 0)))) [])) (
   .ret (.fin (.c (.bool false)) []))) (
  .need (((0 : Int) ≤ Int.ofNat 0 ∧ ((Int.ofNat 0 : Int) ≤ 1000000 ∧ (Int.ofNat 0 : Int) = Int.ofNat 0))) (
  .need (i64ok (Int.ofNat 0 - 1)) (
  .need (((0 = 0 ∧ 0 = List.length l) ∧ ((0 = 0 ∧ Int.toNat (Int.ofNat 0) = 0) ∧ (0 = List.length l ∧ (List.length l ≤ 32 ∧ (F.allok l ∧ F.spots [])))))) (
  cond (F.fitL l []) (
   .need (((0 = 0 ∧ List.length (F.placeR l) = List.length (F.placeR l)) ∧ ((0 = 0 ∧ Int.toNat (Int.ofNat 0) = 0) ∧ Int.ofNat (List.length (F.placeR l)) ≤ 1000000))) (
   .ret (.fin (.c (.bool (F.eqI (F.placeR l) []))) []))) (
   .need (i64ok (0 + 1)) (
   .ret (.fin (.c (.bool false)) []))))))))) (
 .need ((0 = 0 ∧ 0 = List.length l)) (
 cond (!decide (F.lchk l = 0)) (
  cond (decide (F.placeE l = F.lchk l)) (
   .ret (.fin (.c (.bool (decide (Int.ofNat 0 = 0)))) [])) (
   .ret (.fin (.c (.bool false)) []))) (
  .need (((0 : Int) ≤ Int.ofNat 0 ∧ ((Int.ofNat 0 : Int) ≤ 1000000 ∧ (Int.ofNat 0 : Int) = Int.ofNat 0))) (
  .need (i64ok (Int.ofNat 0 - 1)) (
  .need (((0 = 0 ∧ 0 = List.length l) ∧ ((0 = 0 ∧ Int.toNat (Int.ofNat 0) = 0) ∧ (0 = List.length l ∧ (List.length l ≤ 32 ∧ (F.allok l ∧ F.spots [])))))) (
  cond (F.fitL l []) (
   cond (decide (F.placeE l = 0)) (
    .need (((0 = 0 ∧ 0 = 0) ∧ ((0 = 0 ∧ Int.toNat (Int.ofNat 0) = 0) ∧ (Int.ofNat 0 : Int) ≤ 1000000))) (
    .ret (.fin (.c (.bool (F.eqI [] []))) []))) (
    .ret (.fin (.c (.bool false)) []))) (
   .need (i64ok (0 + 1)) (
   cond (decide (F.placeE l = 8)) (
    .ret (.fin (.c (.bool (decide (Int.ofNat 0 = 0)))) [])) (
    .ret (.fin (.c (.bool false)) []))))))))))) := by kernel_rfl



theorem lp24 (l : List F.Q4) (l_t : Bool) (fa : List F.Q4) (fr fz : List Int) (ts : List F.Q4) (tn : Nat) (r : List Int) (all : Int) (n : Nat) (b0 : Base) (hb0 : b0.n = 1) (ht : tn = ts.length) (h1 : 1 ≤ tn) (h3 : tn ≤ 3) (hok : F.allok ts) (hn : n < 8 ^ tn) (hA : F.fitL ts (F.wd tn n) = true → r = F.wd tn n) (hB : F.fitL ts (F.wd tn n) = false → Sym.Runs Try.prog b0 (cutAt Try.f7 20) (st_lplaw_20 l l_t fa fr fz ts tn r all ((n : Int) + 1)) (Sym.Ends Try.prog Try.f7 1 (.c (.bool true)) [])) : ∀ (c : Nat) (sp : List Int) (q left : Int), c ≤ tn → sp = List.replicate c 0 ++ F.wd (tn - c) n → q = (c : Int) - 1 → left = ((n / 8 ^ (tn - c) : Nat) : Int) →
    Sym.Runs Try.prog b0 (cutAt Try.f7 24) (st_lplaw_24 l l_t fa fr fz ts tn r all (n : Int) sp tn q left) (Sym.Ends Try.prog Try.f7 1 (.c (.bool true)) []) := by
  have p8 := F.pow8 h3
  intro c
  induction c with
  | zero =>
    intro sp q left hc hsp hq hleft
    refine Runs.go (cfg := C_fit) L_fit_ok mixed cuts_lplaw 400 hb0 (lplaw_t24 l l_t fa fr fz ts tn r all (n : Int) sp tn q left) ?_
    simp only [T.wp, T.wp_cond, Aft, decide_eq_true_eq]
    have e1 : sp = F.wd tn n := by rw [hsp]; rfl
    have e2 : sp.length = tn := by rw [e1, F.wd_len]
    refine ite_no (by omega) ⟨⟨⟨trivial, ht⟩, ⟨trivial, e2.symm⟩, by omega, by omega, hok, by rw [e1]; exact F.wd_spots _ _⟩, ?_⟩
    subst e1
    cases hf : F.fitL ts (F.wd tn n) with
    | false => exact ite_no (by simp) ⟨by unfold i64ok; omega, hB hf⟩
    | true => exact ite_yes rfl ⟨⟨⟨trivial, trivial⟩, ⟨trivial, e2.symm⟩, by rw [hA hf, Int.ofNat_eq_natCast, F.wd_len]; omega⟩, by rw [hA hf]; exact congrArg (fun b => SV.c (Cell.bool b)) (decide_eq_true rfl), trivial⟩
  | succ c ih =>
    intro sp q left hc hsp hq hleft
    have hl0 : sp.length = tn := by rw [hsp, List.length_append, List.length_replicate, F.wd_len]; omega
    have hle : n / 8 ^ (tn - (c + 1)) ≤ n := Nat.div_le_self _ _
    have et : tn - c = (tn - (c + 1)) + 1 := by omega
    have ed : left.tdiv 8 = ((n / 8 ^ (tn - c) : Nat) : Int) := by
      rw [hleft, et, Nat.pow_succ, ← Nat.div_div_eq_div_mul, Int.tdiv_eq_ediv_of_nonneg (Int.natCast_nonneg _)]
      generalize n / 8 ^ (tn - (c + 1)) = z
      omega
    have em : left.tmod 8 = ((n / 8 ^ (tn - (c + 1)) % 8 : Nat) : Int) := by
      rw [hleft, Int.tmod_eq_emod_of_nonneg (Int.natCast_nonneg _)]
      generalize n / 8 ^ (tn - (c + 1)) = z
      omega
    have hI : i64ok (left.tdiv 8) := by
      rw [ed]
      have hz := Nat.div_le_self n (8 ^ (tn - c))
      generalize n / 8 ^ (tn - c) = z at hz ⊢
      unfold i64ok
      omega
    have hq' : 0 + Int.toNat q = c := by omega
    refine Runs.go (cfg := C_fit) L_fit_ok mixed cuts_lplaw 400 hb0 (lplaw_t24 l l_t fa fr fz ts tn r all (n : Int) sp tn q left) ?_
    simp only [T.wp, T.wp_cond, Aft, decide_eq_true_eq]
    refine ite_yes (by omega) ⟨by decide, ⟨by omega, by rw [Int.ofNat_eq_natCast]; omega⟩, by omega, by decide, hI, by unfold i64ok; omega, ?_⟩
    refine ih _ _ _ (by omega) ?_ (by omega) ed
    rw [hq', em, hsp]
    exact (F.set_rep _ _ c).trans (by rw [et, F.wd])
theorem lp20 (l : List F.Q4) (l_t : Bool) (fa : List F.Q4) (fr fz : List Int) (ts : List F.Q4) (tn : Nat) (r : List Int) (b0 : Base) (hb0 : b0.n = 1) (ht : tn = ts.length) (h1 : 1 ≤ tn) (h3 : tn ≤ 3) (hok : F.allok ts) (hr : r.length = tn ∧ F.spots r ∧ F.fitL ts r = true ∧ ∀ n, n < 8 ^ tn → F.fitL ts (F.wd tn n) = true → F.idx r ≤ n) : ∀ (m n : Nat), n + m = 8 ^ tn → (∀ j, j < n → F.fitL ts (F.wd tn j) = false) →
    Sym.Runs Try.prog b0 (cutAt Try.f7 20) (st_lplaw_20 l l_t fa fr fz ts tn r ((8 ^ tn : Nat) : Int) (n : Int)) (Sym.Ends Try.prog Try.f7 1 (.c (.bool true)) []) := by
  have p8 := F.pow8 h3
  intro m
  induction m with
  | zero =>
    intro n hm hno
    refine Runs.go (cfg := C_fit) L_fit_ok mixed cuts_lplaw 400 hb0 (lplaw_t20 l l_t fa fr fz ts tn r ((8 ^ tn : Nat) : Int) (n : Int)) ?_
    simp only [T.wp, T.wp_cond, Aft, decide_eq_true_eq]
    refine ite_no (by omega) ?_
    exfalso
    have hi := F.idx_lt hr.2.1
    have hw := F.wd_idx hr.2.1
    rw [hr.1] at hi hw
    have := hno (F.idx r) (by omega)
    rw [hw, hr.2.2.1] at this
    cases this
  | succ m ih =>
    intro n hm hno
    refine Runs.go (cfg := C_fit) L_fit_ok mixed cuts_lplaw 400 hb0 (lplaw_t20 l l_t fa fr fz ts tn r ((8 ^ tn : Nat) : Int) (n : Int)) ?_
    simp only [T.wp, T.wp_cond, Aft, decide_eq_true_eq]
    refine ite_yes (by omega) ⟨⟨by rw [Int.ofNat_eq_natCast]; omega, by rw [Int.ofNat_eq_natCast]; omega, trivial⟩, by rw [Int.ofNat_eq_natCast]; unfold i64ok; omega, ?_⟩
    refine lp24 l l_t fa fr fz ts tn r ((8 ^ tn : Nat) : Int) n b0 hb0 ht h1 h3 hok (by omega) (fun hf => ?_) (fun hf => ?_) tn _ _ _ (Nat.le_refl _) ?_ rfl ?_
    · have hi := F.idx_lt hr.2.1
      have hw := F.wd_idx hr.2.1
      rw [hr.1] at hi hw
      have hle := hr.2.2.2 n (by omega) hf
      have : ¬ F.idx r < n := fun hlt => by
        have := hno (F.idx r) hlt
        rw [hw, hr.2.2.1] at this
        cases this
      rw [← show F.idx r = n by omega, hw]
    · have := ih (n + 1) (by omega) (fun j hj => by
        by_cases e : j = n
        · rw [e]; exact hf
        · exact hno j (by omega))
      exact this
    · rw [Nat.sub_self]; exact (List.append_nil _).symm
    · rw [Nat.sub_self, Nat.pow_zero, Nat.div_one]
theorem lp16 (l : List F.Q4) (l_t : Bool) (fa : List F.Q4) (fr fz : List Int) (ts : List F.Q4) (tn : Nat) (r : List Int) (b0 : Base) (hb0 : b0.n = 1) (h3 : tn ≤ 3) (K : Sym.Runs Try.prog b0 (cutAt Try.f7 20) (st_lplaw_20 l l_t fa fr fz ts tn r ((8 ^ tn : Nat) : Int) 0) (Sym.Ends Try.prog Try.f7 1 (.c (.bool true)) [])) : ∀ (m i : Nat), i + m = tn →
    Sym.Runs Try.prog b0 (cutAt Try.f7 16) (st_lplaw_16 l l_t fa fr fz ts tn r (i : Int) ((8 ^ i : Nat) : Int)) (Sym.Ends Try.prog Try.f7 1 (.c (.bool true)) []) := by
  intro m
  induction m with
  | zero =>
    intro i hm
    refine Runs.go (cfg := C_fit) L_fit_ok mixed cuts_lplaw 400 hb0 (lplaw_t16 l l_t fa fr fz ts tn r (i : Int) ((8 ^ i : Nat) : Int)) ?_
    simp only [T.wp, T.wp_cond, Aft, decide_eq_true_eq]
    refine ite_no (by rw [Int.ofNat_eq_natCast]; omega) ?_
    have e : i = tn := by omega
    subst e
    exact K
  | succ m ih =>
    intro i hm
    have p8 := F.pow8 (t := i) (by omega)
    have e8 : (((8 ^ i : Nat) : Int) * 8) = ((8 ^ (i + 1) : Nat) : Int) := by rw [Nat.pow_succ]; omega
    have nx := ih (i + 1) (by omega)
    have hI : i64ok (((8 ^ i : Nat) : Int) * 8) := by
      generalize 8 ^ i = z at p8
      unfold i64ok
      omega
    refine Runs.go (cfg := C_fit) L_fit_ok mixed cuts_lplaw 400 hb0 (lplaw_t16 l l_t fa fr fz ts tn r (i : Int) ((8 ^ i : Nat) : Int)) ?_
    simp only [T.wp, T.wp_cond, Aft, decide_eq_true_eq]
    refine ite_yes (by rw [Int.ofNat_eq_natCast]; omega) ⟨hI, by unfold i64ok; omega, ?_⟩
    rw [e8]
    exact nx
theorem lp24b (l : List F.Q4) (l_t : Bool) (fa : List F.Q4) (fr fz : List Int) (ts : List F.Q4) (tn : Nat) (e : Int) (all : Int) (n : Nat) (b0 : Base) (hb0 : b0.n = 1) (ht : tn = ts.length) (h1 : 1 ≤ tn) (h3 : tn ≤ 3) (hok : F.allok ts) (hn : n < 8 ^ tn) (hA : F.fitL ts (F.wd tn n) = true → False) (hB : F.fitL ts (F.wd tn n) = false → Sym.Runs Try.prog b0 (cutAt Try.f7 20) (st_lplaw_20b l l_t fa fr fz ts tn e all ((n : Int) + 1)) (Sym.Ends Try.prog Try.f7 1 (.c (.bool true)) [])) : ∀ (c : Nat) (sp : List Int) (q left : Int), c ≤ tn → sp = List.replicate c 0 ++ F.wd (tn - c) n → q = (c : Int) - 1 → left = ((n / 8 ^ (tn - c) : Nat) : Int) →
    Sym.Runs Try.prog b0 (cutAt Try.f7 24) (st_lplaw_24b l l_t fa fr fz ts tn e all (n : Int) sp tn q left) (Sym.Ends Try.prog Try.f7 1 (.c (.bool true)) []) := by
  have p8 := F.pow8 h3
  intro c
  induction c with
  | zero =>
    intro sp q left hc hsp hq hleft
    refine Runs.go (cfg := C_fit) L_fit_ok mixed cuts_lplaw 400 hb0 (lplaw_t24b l l_t fa fr fz ts tn e all (n : Int) sp tn q left) ?_
    simp only [T.wp, T.wp_cond, Aft, decide_eq_true_eq]
    have e1 : sp = F.wd tn n := by rw [hsp]; rfl
    have e2 : sp.length = tn := by rw [e1, F.wd_len]
    refine ite_no (by omega) ⟨⟨⟨trivial, ht⟩, ⟨trivial, e2.symm⟩, by omega, by omega, hok, by rw [e1]; exact F.wd_spots _ _⟩, ?_⟩
    subst e1
    cases hf : F.fitL ts (F.wd tn n) with
    | false => exact ite_no (by simp) ⟨by unfold i64ok; omega, hB hf⟩
    | true => exact (hA hf).elim
  | succ c ih =>
    intro sp q left hc hsp hq hleft
    have hl0 : sp.length = tn := by rw [hsp, List.length_append, List.length_replicate, F.wd_len]; omega
    have hle : n / 8 ^ (tn - (c + 1)) ≤ n := Nat.div_le_self _ _
    have et : tn - c = (tn - (c + 1)) + 1 := by omega
    have ed : left.tdiv 8 = ((n / 8 ^ (tn - c) : Nat) : Int) := by
      rw [hleft, et, Nat.pow_succ, ← Nat.div_div_eq_div_mul, Int.tdiv_eq_ediv_of_nonneg (Int.natCast_nonneg _)]
      generalize n / 8 ^ (tn - (c + 1)) = z
      omega
    have em : left.tmod 8 = ((n / 8 ^ (tn - (c + 1)) % 8 : Nat) : Int) := by
      rw [hleft, Int.tmod_eq_emod_of_nonneg (Int.natCast_nonneg _)]
      generalize n / 8 ^ (tn - (c + 1)) = z
      omega
    have hI : i64ok (left.tdiv 8) := by
      rw [ed]
      have hz := Nat.div_le_self n (8 ^ (tn - c))
      generalize n / 8 ^ (tn - c) = z at hz ⊢
      unfold i64ok
      omega
    have hq' : 0 + Int.toNat q = c := by omega
    refine Runs.go (cfg := C_fit) L_fit_ok mixed cuts_lplaw 400 hb0 (lplaw_t24b l l_t fa fr fz ts tn e all (n : Int) sp tn q left) ?_
    simp only [T.wp, T.wp_cond, Aft, decide_eq_true_eq]
    refine ite_yes (by omega) ⟨by decide, ⟨by omega, by rw [Int.ofNat_eq_natCast]; omega⟩, by omega, by decide, hI, by unfold i64ok; omega, ?_⟩
    refine ih _ _ _ (by omega) ?_ (by omega) ed
    rw [hq', em, hsp]
    exact (F.set_rep _ _ c).trans (by rw [et, F.wd])
theorem lp20b (l : List F.Q4) (l_t : Bool) (fa : List F.Q4) (fr fz : List Int) (ts : List F.Q4) (tn : Nat) (e : Int) (b0 : Base) (hb0 : b0.n = 1) (ht : tn = ts.length) (h1 : 1 ≤ tn) (h3 : tn ≤ 3) (hok : F.allok ts) (he : e = 8) (hr : ∀ n, F.fitL ts (F.wd tn n) = false) : ∀ (m n : Nat), n + m = 8 ^ tn → (∀ j, j < n → F.fitL ts (F.wd tn j) = false) →
    Sym.Runs Try.prog b0 (cutAt Try.f7 20) (st_lplaw_20b l l_t fa fr fz ts tn e ((8 ^ tn : Nat) : Int) (n : Int)) (Sym.Ends Try.prog Try.f7 1 (.c (.bool true)) []) := by
  have p8 := F.pow8 h3
  intro m
  induction m with
  | zero =>
    intro n hm hno
    refine Runs.go (cfg := C_fit) L_fit_ok mixed cuts_lplaw 400 hb0 (lplaw_t20b l l_t fa fr fz ts tn e ((8 ^ tn : Nat) : Int) (n : Int)) ?_
    simp only [T.wp, T.wp_cond, Aft, decide_eq_true_eq]
    refine ite_no (by omega) ?_
    exact ite_yes he ⟨rfl, trivial⟩
  | succ m ih =>
    intro n hm hno
    refine Runs.go (cfg := C_fit) L_fit_ok mixed cuts_lplaw 400 hb0 (lplaw_t20b l l_t fa fr fz ts tn e ((8 ^ tn : Nat) : Int) (n : Int)) ?_
    simp only [T.wp, T.wp_cond, Aft, decide_eq_true_eq]
    refine ite_yes (by omega) ⟨⟨by rw [Int.ofNat_eq_natCast]; omega, by rw [Int.ofNat_eq_natCast]; omega, trivial⟩, by rw [Int.ofNat_eq_natCast]; unfold i64ok; omega, ?_⟩
    refine lp24b l l_t fa fr fz ts tn e ((8 ^ tn : Nat) : Int) n b0 hb0 ht h1 h3 hok (by omega) (fun hf => by rw [hr n] at hf; cases hf) (fun hf => ?_) tn _ _ _ (Nat.le_refl _) ?_ rfl ?_
    · have := ih (n + 1) (by omega) (fun j hj => by
        by_cases e : j = n
        · rw [e]; exact hf
        · exact hno j (by omega))
      exact this
    · rw [Nat.sub_self]; exact (List.append_nil _).symm
    · rw [Nat.sub_self, Nat.pow_zero, Nat.div_one]
theorem lp16b (l : List F.Q4) (l_t : Bool) (fa : List F.Q4) (fr fz : List Int) (ts : List F.Q4) (tn : Nat) (e : Int) (b0 : Base) (hb0 : b0.n = 1) (h3 : tn ≤ 3) (K : Sym.Runs Try.prog b0 (cutAt Try.f7 20) (st_lplaw_20b l l_t fa fr fz ts tn e ((8 ^ tn : Nat) : Int) 0) (Sym.Ends Try.prog Try.f7 1 (.c (.bool true)) [])) : ∀ (m i : Nat), i + m = tn →
    Sym.Runs Try.prog b0 (cutAt Try.f7 16) (st_lplaw_16b l l_t fa fr fz ts tn e (i : Int) ((8 ^ i : Nat) : Int)) (Sym.Ends Try.prog Try.f7 1 (.c (.bool true)) []) := by
  intro m
  induction m with
  | zero =>
    intro i hm
    refine Runs.go (cfg := C_fit) L_fit_ok mixed cuts_lplaw 400 hb0 (lplaw_t16b l l_t fa fr fz ts tn e (i : Int) ((8 ^ i : Nat) : Int)) ?_
    simp only [T.wp, T.wp_cond, Aft, decide_eq_true_eq]
    refine ite_no (by rw [Int.ofNat_eq_natCast]; omega) ?_
    have e : i = tn := by omega
    subst e
    exact K
  | succ m ih =>
    intro i hm
    have p8 := F.pow8 (t := i) (by omega)
    have e8 : (((8 ^ i : Nat) : Int) * 8) = ((8 ^ (i + 1) : Nat) : Int) := by rw [Nat.pow_succ]; omega
    have nx := ih (i + 1) (by omega)
    have hI : i64ok (((8 ^ i : Nat) : Int) * 8) := by
      generalize 8 ^ i = z at p8
      unfold i64ok
      omega
    refine Runs.go (cfg := C_fit) L_fit_ok mixed cuts_lplaw 400 hb0 (lplaw_t16b l l_t fa fr fz ts tn e (i : Int) ((8 ^ i : Nat) : Int)) ?_
    simp only [T.wp, T.wp_cond, Aft, decide_eq_true_eq]
    refine ite_yes (by rw [Int.ofNat_eq_natCast]; omega) ⟨hI, by unfold i64ok; omega, ?_⟩
    rw [e8]
    exact nx
theorem lp6 (l : List F.Q4) (l_t : Bool) (fa : List F.Q4) (fr fz : List Int) (tn : Nat) (b0 : Base) (hb0 : b0.n = 1) (h1 : 1 ≤ tn) (h3 : tn ≤ 3) : ∀ (m k : Nat) (ts : List F.Q4), k + m = tn → tn = ts.length → F.q64 ts → (∀ j, j < k → F.small (ts.getD j F.q0)) →
    Sym.Runs Try.prog b0 (cutAt Try.f7 6) (st_lplaw_6 l l_t fa fr fz ts tn (k : Int)) (Sym.Ends Try.prog Try.f7 1 (.c (.bool true)) []) := by
  intro m
  induction m with
  | zero =>
    intro k ts hm ht hq hs
    have h64 : F.l64 ts := fun x hx => ⟨(hq x hx).1, (hq x hx).2.1⟩
    refine Runs.go (cfg := C_fit) L_fit_ok mixed cuts_lplaw 400 hb0 (lplaw_t6 l l_t fa fr fz ts tn (k : Int)) ?_
    simp only [T.wp, T.wp_cond, Aft, decide_eq_true_eq]
    refine ite_no (by rw [Int.ofNat_eq_natCast]; omega) ⟨⟨⟨trivial, ht⟩, h64⟩, fun hp => ⟨⟨trivial, ht⟩, ?_⟩, fun hp => ⟨⟨trivial, ht⟩, ?_⟩⟩
    · have c1 : F.lchk ts = 0 := by
        unfold F.placeB at hp
        simp only [Bool.and_eq_true, decide_eq_true_eq] at hp
        exact hp.1
      have hok := F.allok_of c1
      have hr := F.place_yes hp
      rw [← ht] at hr
      refine ite_no (by simp [c1]) ?_
      exact lp16 l l_t fa fr fz ts tn (F.placeR ts) b0 hb0 h3 (lp20 l l_t fa fr fz ts tn (F.placeR ts) b0 hb0 ht h1 h3 hok hr (8 ^ tn) 0 (by omega) (fun j hj => absurd hj (by omega))) tn 0 (by omega)
    · by_cases c1 : F.lchk ts = 0
      · have hok := F.allok_of c1
        have hr := F.place_no hp c1 (by omega) (by omega)
        rw [← ht] at hr
        refine ite_no (by simp [c1]) ?_
        exact lp16b l l_t fa fr fz ts tn (F.placeE ts) b0 hb0 h3 (lp20b l l_t fa fr fz ts tn (F.placeE ts) b0 hb0 ht h1 h3 hok hr.1 hr.2 (8 ^ tn) 0 (by omega) (fun j hj => absurd hj (by omega))) tn 0 (by omega)
      · refine ite_yes (by simp [c1]) (ite_yes ?_ ⟨rfl, trivial⟩)
        unfold F.placeE
        rw [if_neg c1]
  | succ m ih =>
    intro k ts hm ht hq hs
    have k2 : k < ts.length := by omega
    have hx := hq (ts.getD k F.q0) (by rw [List.getD, List.getElem?_eq_getElem k2]; exact List.getElem_mem k2)
    have e0 : 0 + Int.toNat (k : Int) = k := by omega
    have v1 : (k : Int) < Int.ofNat tn := by rw [Int.ofNat_eq_natCast]; omega
    have v0 : (0 : Int) ≤ (k : Int) := by omega
    have nx := ih (k + 1)
    refine Runs.go (cfg := C_fit) L_fit_ok mixed cuts_lplaw 400 hb0 (lplaw_t6 l l_t fa fr fz ts tn (k : Int)) ?_
    simp only [T.wp, T.wp_cond, Aft, decide_eq_true_eq]
    rw [e0]
    refine ite_yes v1 ⟨⟨v0, v1⟩, k2, ⟨by decide, by decide, by decide, hx.2.2.1⟩, ⟨v0, v1⟩, k2, ⟨by decide, by decide, by decide, hx.2.2.2⟩, ⟨v0, v1⟩, k2, ⟨v0, v1⟩, Nat.lt_of_lt_of_eq k2 (List.length_set ..).symm, by unfold i64ok; omega, ?_⟩
    refine nx _ (by omega) ?_ ?_ ?_
    · exact ht.trans ((List.length_set ..).trans (List.length_set ..)).symm
    · exact F.q64_set hq k2
    · exact F.small_set k2 hs
theorem lplaw_run (l : List (Int × Int × Int × Int)) (l_t : Bool) (b0 : Base) (hb : b0.n = 1) (h0 : F.q64 l) : Sym.Runs Try.prog b0 [.code (codeOf Try.f7)] ⟨argsS Try.f7 [.c (.slc 0 0 (List.length l) l_t)], ([.inp 4 l] : Heap cod)⟩ (Sym.Ends Try.prog Try.f7 1 (.c (.bool true)) []) := by
  have hfb : F.placeB [(0, 0, 2, 2), (9, 9, 2, 2)] = true := F.fact_B
  refine Runs.go (cfg := C_fit) L_fit_ok mixed cuts_lplaw 400 hb (lplaw_t0 l l_t) ?_
  simp only [T.wp, T.wp_cond, Aft, decide_eq_true_eq, decide_eq_false_iff_not]
  have hmin : Int.toNat (min (Int.ofNat (List.length l)) 3) = min l.length 3 := by rw [Int.ofNat_eq_natCast]; omega
  have hl64 : F.l64 l := fun x hx => ⟨(h0 x hx).1, (h0 x hx).2.1⟩
  rw [hmin]
  refine ⟨⟨⟨trivial, trivial⟩, ?_⟩, fun _ => ?_, fun h => by rw [hfb] at h; cases h⟩
  · intro x hx
    rcases List.mem_cons.mp hx with rfl | hx
    · exact ⟨⟨by decide, by decide⟩, by decide, by decide⟩
    · rw [List.mem_singleton.mp hx]; exact ⟨⟨by decide, by decide⟩, by decide, by decide⟩
  refine ⟨⟨⟨trivial, trivial⟩, ⟨trivial, trivial⟩, by decide⟩, ⟨by rw [Int.ofNat_eq_natCast]; omega, by rw [Int.ofNat_eq_natCast]; omega⟩, fun hz => ⟨hz, ?_⟩, fun hz => ?_⟩
  · have hl : l = [] := List.eq_nil_of_length_eq_zero (by omega)
    subst hl
    refine Runs.go (cfg := C_fit) L_fit_ok mixed [] 400 hb (lplaw_tz [] _ _ _) ?_
    have e1 : F.placeB [] = false := by decide
    have e2 : F.lchk [] = 0 := by decide
    have e3 : F.placeE [] = 0 := by decide
    have e4 : F.fitL [] [] = true := by decide
    have e5 : F.eqI [] [] = true := by decide
    have e6 : F.allok [] := fun x hx => absurd hx (by simp)
    have e7 : F.spots [] := fun x hx => absurd hx (by simp)
    have e8 : i64ok (Int.ofNat 0 - 1) := ⟨by decide, by decide⟩
    have e9 : i64ok (0 + 1) := ⟨by decide, by decide⟩
    simp [T.wp, T.wp_cond, Aft, e1, e2, e3, e4, e5, e6, e7, e9, hl64]
    exact e8
  · refine ⟨⟨by omega, by omega, by omega⟩, ?_⟩
    have et : List.take (min l.length 3) (List.drop 0 l) = l.take (min l.length 3) := rfl
    refine lp6 l l_t _ _ _ (min l.length 3) b0 hb (by omega) (by omega) (min l.length 3) 0 (l.take (min l.length 3)) (by omega) ?_ ?_ ?_
    · rw [List.length_take]; omega
    · exact fun x hx => h0 x (List.mem_of_mem_take hx)
    · intro j hj; omega



noncomputable def s_lplaw : Summ cod := fun args H => match args, H with
  | [.c (.slc 0 l_i l_n l_t)], [o0] => (match o0.asInp 4 with | some l => .need ((l_i = 0 ∧ l_n = List.length l) ∧ (F.q64 l)) (.ret (.c (.bool true), [])) | none => .fail)
  | _, _ => .fail


theorem lplaw_sound : Sound Try.prog cod 7 s_lplaw := sound_runs (cfg := C_fit) L_fit_ok mixed Try.func7 rfl rfl _ fun args H r news hg b0 hb => by
  unfold s_lplaw at hg
  split at hg
  · skip
    split at hg
    · rename_i l hx0
      cases asInp_spec hx0
      simp only [T.gives, T.wp, Prod.mk.injEq] at hg
      obtain ⟨⟨⟨rfl, rfl⟩, q1⟩, rfl, rfl⟩ := hg
      exact lplaw_run _ _ b0 hb (by assumption)
    · exact hg.elim
  · exact hg.elim

noncomputable def L_lplaw : Sums cod := (7, .p s_lplaw) :: L_fit
noncomputable def C_lplaw : Cfg cod := mkC L_lplaw

theorem L_lplaw_ok : Snd Try.prog cod L_lplaw := .cons lplaw_sound L_fit_ok


end
end Go.Proofs.Ytffcfbamcaoidaa
