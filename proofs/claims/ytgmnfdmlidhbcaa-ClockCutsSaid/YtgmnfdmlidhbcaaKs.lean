/- Part of a claim: lemmas on the way to its theorem; each states its own conditions. -/
import Derived.Test.YtgmnfdmlidhbcaaKr
namespace Go.Proofs.Ytgmnfdmlidhbcaa
open Sym Go.RowKit
noncomputable section
set_option maxRecDepth 100000
set_option maxHeartbeats 4000000



namespace F
def snG (L : List Ev) : Nat → List Int
  | 0 => List.replicate 8 0
  | n + 1 => (snG L n).set (L.getD n ev0).1.toNat ((snG L n).getD (L.getD n ev0).1.toNat 0 + 1)
def inG (L : List Ev) (c : List Int) : Nat → List Bool
  | 0 => List.replicate L.length false
  | n + 1 => (inG L c n).set n (decide ((snG L (n + 1)).getD (L.getD n ev0).1.toNat 0 ≤ c.getD (L.getD n ev0).1.toNat 0))
def wR (r b : List Bool) (bi u : Bool) : Nat → Bool
  | 0 => u
  | k + 1 => wR r b bi u k && !(r.getD k false && b.getD k false && !bi)
def wO (X : List (List Bool)) (b : List Bool) (n : Nat) : Nat → Bool
  | 0 => true
  | i + 1 => wR (X.getD i []) b (b.getD i false) (wO X b n i) n
end F


namespace F
theorem snG_len (L : List Ev) : ∀ n, (snG L n).length = 8
  | 0 => rfl
  | n + 1 => by unfold snG; rw [List.length_set]; exact snG_len L n
theorem snG_get {L : List Ev} (hc : chk L = 0) {t : Nat} (ht : t < 8) : ∀ n, n ≤ L.length → (snG L n).getD t 0 = cnt L t n
  | 0, _ => by
      have e : (snG L 0).getD t 0 = 0 := by
        show (List.replicate 8 (0 : Int)).getD t 0 = 0
        rw [List.getD_eq_getElem?_getD, List.getElem?_replicate]
        split <;> rfl
      rw [e]
      rfl
  | n + 1, hn => by
      have ih := snG_get hc ht n (by omega)
      have hs := st_lt hc (show n < L.length by omega)
      rw [cnt_succ]
      unfold snG
      rw [gset, snG_len]
      unfold st at hs ⊢
      by_cases e : (L.getD n ev0).1.toNat = t
      · subst e
        rw [if_pos ⟨rfl, hs⟩, if_pos rfl, ih]
      · rw [if_neg (fun h => e h.1), if_neg e, ih]
        omega
theorem snG_bound (L : List Ev) : ∀ n t : Nat, 0 ≤ (snG L n).getD t 0 ∧ (snG L n).getD t 0 ≤ (n : Int)
  | 0, t => by
      have e : (snG L 0).getD t 0 = 0 := by
        show (List.replicate 8 (0 : Int)).getD t 0 = 0
        rw [List.getD_eq_getElem?_getD, List.getElem?_replicate]
        split <;> rfl
      rw [e]
      omega
  | n + 1, t => by
      have a := snG_bound L n t
      have b := snG_bound L n (L.getD n ev0).1.toNat
      unfold snG
      rw [gset]
      split <;> omega
theorem inG_len (L : List Ev) (c : List Int) : ∀ n, (inG L c n).length = L.length
  | 0 => List.length_replicate
  | n + 1 => by unfold inG; rw [List.length_set]; exact inG_len L c n
theorem inG_get {L : List Ev} (hc : chk L = 0) (c : List Int) {k : Nat} : ∀ n, k < n → n ≤ L.length → (inG L c n).getD k false = inC L c k
  | 0, h, _ => by omega
  | n + 1, h, hn => by
      unfold inG
      rw [gset, inG_len]
      by_cases e : n = k
      · subst e
        have hs := st_lt hc (show n < L.length by omega)
        rw [if_pos ⟨rfl, by omega⟩]
        unfold st at hs
        rw [snG_get hc hs (n + 1) hn]
        rfl
      · rw [if_neg (fun h => e h.1)]
        exact inG_get hc c n (by omega) (by omega)
theorem wR_iff (r b : List Bool) (bi u : Bool) : ∀ n, wR r b bi u n = true ↔ u = true ∧ ∀ k, k < n → r.getD k false = true → b.getD k false = true → bi = true
  | 0 => ⟨fun h => ⟨h, fun k hk => by omega⟩, fun h => h.1⟩
  | n + 1 => by
      have ih := wR_iff r b bi u n
      unfold wR
      rw [Bool.and_eq_true, ih]
      constructor
      · rintro ⟨⟨h1, h2⟩, h3⟩
        refine ⟨h1, fun k hk => ?_⟩
        by_cases e : k = n
        · subst e
          intro q1 q2
          rw [q1, q2] at h3
          simpa using h3
        · exact h2 k (by omega)
      · rintro ⟨h1, h2⟩
        refine ⟨⟨h1, fun k hk => h2 k (by omega)⟩, ?_⟩
        have h3 := h2 n (by omega)
        cases q1 : r.getD n false with
        | false => rfl
        | true =>
          cases q2 : b.getD n false with
          | false => rfl
          | true => rw [h3 q1 q2]; rfl
theorem wO_iff (X : List (List Bool)) (b : List Bool) (n : Nat) : ∀ m, wO X b n m = true ↔ ∀ i, i < m → ∀ k, k < n → (X.getD i []).getD k false = true → b.getD k false = true → b.getD i false = true
  | 0 => ⟨fun _ i hi => by omega, fun _ => rfl⟩
  | m + 1 => by
      have ih := wO_iff X b n m
      unfold wO
      rw [wR_iff, ih]
      constructor
      · rintro ⟨h1, h2⟩ i hi
        by_cases e : i = m
        · subst e; exact h2
        · exact h1 i (by omega)
      · intro h
        exact ⟨fun i hi => h i (by omega), h m (by omega)⟩
theorem cuts_eq {L : List Ev} (hc : chk L = 0) (c : List Int) (h8 : c.length = 8) : con L c = wO (lea L) (inG L c L.length) L.length L.length := by
  have eE : conE L c = 0 := by unfold conE; rw [if_pos hc, if_pos h8]
  have eC : con L c = conG L c L.length 0 := by unfold con; rw [if_pos eE]
  rw [eC]
  apply Bool.eq_iff_iff.2
  rw [con_iff hc, wO_iff]
  constructor
  · intro h i hi k hk q1 q2
    rw [inG_get hc c _ hk (Nat.le_refl _)] at q2
    rw [inG_get hc c _ hi (Nat.le_refl _)]
    exact h i k hi hk q1 q2
  · intro h i k hi hk q1 q2
    have := h i hi k hk q1
    rw [inG_get hc c _ hk (Nat.le_refl _), inG_get hc c _ hi (Nat.le_refl _)] at this
    exact this q2
end F


def cuts_ccu : Cuts := [(100004, [1, 0], 2), (13, [1, 8, 9, 52, 5, 6, 0, 53, 54], 4), (20, [9, 80, 5, 6, 81, 82, 12], 5), (100021, [9, 80, 5, 6, 81, 82, 12], 6), (23, [13, 9, 14, 80, 5, 6, 81, 82, 88, 89, 12], 6), (100027, [9, 80, 5, 6, 81, 12, 82], 6)]
def cuts_ccu_r4 : Cuts := [(13, [1, 8, 9, 52, 5, 6, 0, 53, 54], 4), (20, [9, 80, 5, 6, 81, 82, 12], 5), (100021, [9, 80, 5, 6, 81, 82, 12], 6), (23, [13, 9, 14, 80, 5, 6, 81, 82, 88, 89, 12], 6), (100027, [9, 80, 5, 6, 81, 12, 82], 6)]
def cuts_ccu_r21 : Cuts := [(100004, [1, 0], 2), (13, [1, 8, 9, 52, 5, 6, 0, 53, 54], 4), (20, [9, 80, 5, 6, 81, 82, 12], 5), (23, [13, 9, 14, 80, 5, 6, 81, 82, 88, 89, 12], 6), (100027, [9, 80, 5, 6, 81, 12, 82], 6)]
def cuts_ccu_r21b : Cuts := [(100004, [1, 0], 2), (13, [1, 8, 9, 52, 5, 6, 0, 53, 54], 4), (20, [9, 80, 5, 6, 81, 82, 12], 5), (23, [13, 9, 14, 80, 5, 6, 81, 82, 88, 89, 12], 6), (100027, [9, 80, 5, 6, 81, 12, 82], 6)]
def cuts_ccu_r27 : Cuts := [(100004, [1, 0], 2), (13, [1, 8, 9, 52, 5, 6, 0, 53, 54], 4), (20, [9, 80, 5, 6, 81, 82, 12], 5), (100021, [9, 80, 5, 6, 81, 82, 12], 6), (23, [13, 9, 14, 80, 5, 6, 81, 82, 88, 89, 12], 6)]

theorem ccu_t0 (l : List (Int × Int × Int)) (l_t : Bool) (c : List Int) (c_t : Bool) : symF C_cfact cuts_ccu Try.f4.results.toList 2 400 [.code (codeOf Try.f4)] ⟨argsS Try.f4 [.c (.slc 0 0 (List.length l) l_t), .c (.slc 1 0 (List.length c) c_t)], ([.inp 1 l, .inp 0 c] : Heap cod)⟩ =
.need (((0 : Int) ≤ min (Int.ofNat (List.length l)) 30 ∧ min (Int.ofNat (List.length l)) 30 ≤ Int.ofNat (List.length l))) (
.ret (.cut (regAt Try.f4 4) ⟨tmG 120 [(0, .c (.slc 0 0 (Int.toNat (min (Int.ofNat (List.length l)) 30)) false)), (0, .c (.slc 1 0 (List.length c) c_t))], [.inp 1 l, .inp 0 c]⟩)) := by kernel_rfl


noncomputable def st_ccu_r4 (l : List (Int × Int × Int)) (l_t : Bool) (c : List Int) (c_t : Bool) (L : List (Int × Int × Int)) : St cod := ⟨tmG 120 [(0, .c (.slc 0 0 (List.length L) false)), (0, .c (.slc 1 0 (List.length c) c_t))], ([.inp 1 L, .inp 0 c] : Heap cod)⟩


theorem ccu_tr4 (l : List (Int × Int × Int)) (l_t : Bool) (c : List Int) (c_t : Bool) (L : List (Int × Int × Int)) : symF C_cfact cuts_ccu_r4 Try.f4.results.toList 2 400 (regAt Try.f4 4) (st_ccu_r4 l l_t c c_t L) =
.need (((0 = 0 ∧ List.length L = List.length L) ∧ ((0 = 0 ∧ List.length c = List.length c) ∧ List.length L ≤ 1000000))) (
.need (((0 = 0 ∧ List.length L = List.length L) ∧ List.length L ≤ 1000000)) (
 cond (!decide (F.chk L = 0)) (
 cond (decide (F.conE L c = F.chk L)) (
  .ret (.fin (.c (.bool (!F.con L c))) [])) (
  .ret (.fin (.c (.bool false)) []))) (
 cond (!decide (Int.ofNat (List.length c) = 8)) (
  cond (decide (F.conE L c = 1)) (
   .ret (.fin (.c (.bool (!F.con L c))) [])) (
   .ret (.fin (.c (.bool false)) []))) (
  .need (((0 : Int) ≤ Int.ofNat (List.length L) ∧ (Int.ofNat (List.length L) ≤ 1000000 ∧ Int.ofNat (List.length L) = Int.ofNat (List.length L)))) (
  .ret (.cut (cutAt Try.f4 13) ⟨tmG 67 [(0, .c (.slc 0 0 (List.length L) false)), (0, .c (.slc 1 0 (List.length c) c_t)), (3, .c (.bool (F.con L c))), (0, .c (.int .i64 (F.conE L c))), (1, .c (.ptr 2 0 0)), (0, .c (.slc 3 0 (Int.toNat (Int.ofNat (List.length L))) true)), (42, .c (.slc 0 0 (List.length L) false)), (0, .c (.int .i64 (Int.ofNat (List.length L)))), (0, .c (.int .i64 0))], [.inp 1 L, .inp 0 c, .arr 0 ([0, 0, 0, 0, 0, 0, 0, 0] : List Int) 34, .arr 4 (List.replicate (Int.toNat (Int.ofNat (List.length L))) false) 4]⟩)))))) := by kernel_rfl


noncomputable def st_ccu_13 (l : List (Int × Int × Int)) (l_t : Bool) (c : List Int) (c_t : Bool) (L : List (Int × Int × Int)) (k : Int) (w : List Int) (b : List Bool) : St cod := ⟨tmG 67 [(0, .c (.slc 0 0 (List.length L) false)), (0, .c (.slc 1 0 (List.length c) c_t)), (3, .c (.bool (F.con L c))), (0, .c (.int .i64 (F.conE L c))), (1, .c (.ptr 2 0 0)), (0, .c (.slc 3 0 (List.length L) true)), (42, .c (.slc 0 0 (List.length L) false)), (0, .c (.int .i64 (Int.ofNat (List.length L)))), (0, .c (.int .i64 k))], ([.inp 1 L, .inp 0 c, .arr 0 w 34, .arr 4 b 4] : Heap cod)⟩


theorem ccu_t13 (l : List (Int × Int × Int)) (l_t : Bool) (c : List Int) (c_t : Bool) (L : List (Int × Int × Int)) (k : Int) (w : List Int) (b : List Bool) : symF C_cfact cuts_ccu Try.f4.results.toList 2 400 (cutAt Try.f4 13) (st_ccu_13 l l_t c c_t L k w b) =
 cond (decide (k < Int.ofNat (List.length L))) (
 .need (((0 : Int) ≤ k ∧ k < Int.ofNat (List.length L))) (
 .need (0 + Int.toNat k < List.length L) (
 .need (((0 : Int) ≤ (List.getD L (0 + Int.toNat k) (cod 1).d).1 ∧ (List.getD L (0 + Int.toNat k) (cod 1).d).1 < Int.ofNat 8)) (
 .need (0 + Int.toNat (List.getD L (0 + Int.toNat k) (cod 1).d).1 < List.length w) (
 .need (i64ok (List.getD w (0 + Int.toNat (List.getD L (0 + Int.toNat k) (cod 1).d).1) (cod 0).d + 1)) (
 .need (((0 : Int) ≤ (List.getD L (0 + Int.toNat k) (cod 1).d).1 ∧ (List.getD L (0 + Int.toNat k) (cod 1).d).1 < Int.ofNat 8)) (
 .need (0 + Int.toNat (List.getD L (0 + Int.toNat k) (cod 1).d).1 < List.length w) (
 .need (((0 : Int) ≤ (List.getD L (0 + Int.toNat k) (cod 1).d).1 ∧ (List.getD L (0 + Int.toNat k) (cod 1).d).1 < Int.ofNat 8)) (
 .need (0 + Int.toNat (List.getD L (0 + Int.toNat k) (cod 1).d).1 <   List.length     (List.set w (0 + Int.toNat (List.getD L (0 + Int.toNat k) (cod 1).d).1)       (List.getD w (0 + Int.toNat (List.getD L (0 + Int.toNat k) (cod 1).d).1) (cod 0).d + 1))) (
 .need (((0 : Int) ≤ (List.getD L (0 + Int.toNat k) (cod 1).d).1 ∧ (List.getD L (0 + Int.toNat k) (cod 1).d).1 < Int.ofNat (List.length c))) (
 .need (0 + Int.toNat (List.getD L (0 + Int.toNat k) (cod 1).d).1 < List.length c) (
 .need (((0 : Int) ≤ k ∧ k < Int.ofNat (List.length L))) (
 .need (0 + Int.toNat k < List.length b) (
 .need (i64ok (k + 1)) (
 .ret (.cut (cutAt Try.f4 13) ⟨tmG 67 [(0, .c (.slc 0 0 (List.length L) false)), (0, .c (.slc 1 0 (List.length c) c_t)), (3, .c (.bool (F.con L c))), (0, .c (.int .i64 (F.conE L c))), (1, .c (.ptr 2 0 0)), (0, .c (.slc 3 0 (List.length L) true)), (42, .c (.slc 0 0 (List.length L) false)), (0, .c (.int .i64 (Int.ofNat (List.length L)))), (0, .c (.int .i64 (k + 1)))], [.inp 1 L, .inp 0 c, .arr 0 (List.set w (0 + Int.toNat (List.getD L (0 + Int.toNat k) (cod 1).d).1)   (List.getD w (0 + Int.toNat (List.getD L (0 + Int.toNat k) (cod 1).d).1) (cod 0).d + 1)) 34, .arr 4 (List.set b (0 + Int.toNat k)   (decide     (List.getD         (List.set w (0 + Int.toNat (List.getD L (0 + Int.toNat k) (cod 1).d).1)           (List.getD w (0 + Int.toNat (List.getD L (0 + Int.toNat k) (cod 1).d).1) (cod 0).d + 1))         (0 + Int.toNat (List.getD L (0 + Int.toNat k) (cod 1).d).1) (cod 0).d ≤       List.getD c (0 + Int.toNat (List.getD L (0 + Int.toNat k) (cod 1).d).1) (cod 0).d))) 4]⟩)))))))))))))))) (
 .need (((0 = 0 ∧ List.length L = List.length L) ∧ List.length L ≤ 200)) (
 .ret (.cut (cutAt Try.f4 20) ⟨tmG 39 [(5, .c (.bool (F.con L c))), (0, .c (.int .i64 (F.conE L c))), (2, .c (.slc 3 0 (List.length L) true)), (2, .c (.bool true)), (67, .c (.own 4 (List.length (F.lea L)))), (0, .c (.int .i64 (Int.ofNat (List.length (F.lea L))))), (0, .c (.int .i64 0))], [.inp 1 L, .inp 0 c, .arr 0 w 34, .arr 4 b 4, .nown 4 (F.lea L) [] [] 35 4]⟩))) := by kernel_rfl


noncomputable def st_ccu_20 (l : List (Int × Int × Int)) (l_t : Bool) (c : List Int) (c_t : Bool) (L : List (Int × Int × Int)) (i : Int) (u : Bool) (w : List Int) (b : List Bool) (X : List (List Bool)) : St cod := ⟨tmG 39 [(5, .c (.bool (F.con L c))), (0, .c (.int .i64 (F.conE L c))), (2, .c (.slc 3 0 (List.length L) true)), (2, .c (.bool u)), (67, .c (.own 4 (List.length X))), (0, .c (.int .i64 (Int.ofNat (List.length X)))), (0, .c (.int .i64 i))], ([.inp 1 L, .inp 0 c, .arr 0 w 34, .arr 4 b 4, .nown 4 X [] [] 35 4] : Heap cod)⟩


theorem ccu_t20 (l : List (Int × Int × Int)) (l_t : Bool) (c : List Int) (c_t : Bool) (L : List (Int × Int × Int)) (i : Int) (u : Bool) (w : List Int) (b : List Bool) (X : List (List Bool)) : symF C_cfact cuts_ccu Try.f4.results.toList 2 400 (cutAt Try.f4 20) (st_ccu_20 l l_t c c_t L i u w b X) =
 cond (decide (i < Int.ofNat (List.length X))) (
 .ret (.cut (regAt Try.f4 21) ⟨tmG 39 [(5, .c (.bool (F.con L c))), (0, .c (.int .i64 (F.conE L c))), (2, .c (.slc 3 0 (List.length L) true)), (2, .c (.bool u)), (67, .c (.own 4 (List.length X))), (0, .c (.int .i64 (Int.ofNat (List.length X)))), (0, .c (.int .i64 i))], [.inp 1 L, .inp 0 c, .arr 0 w 34, .arr 4 b 4, .nown 4 (X) [] [] 35 4]⟩)) (
 cond (decide (F.conE L c = 0)) (
  .ret (.fin (.c (.bool (F.con L c == u))) [])) (
  .ret (.fin (.c (.bool false)) []))) := by kernel_rfl


noncomputable def st_ccu_r21 (l : List (Int × Int × Int)) (l_t : Bool) (c : List Int) (c_t : Bool) (L : List (Int × Int × Int)) (i : Int) (u : Bool) (w : List Int) (b : List Bool) (X : List (List Bool)) : St cod := ⟨tmG 39 [(5, .c (.bool (F.con L c))), (0, .c (.int .i64 (F.conE L c))), (2, .c (.slc 3 0 (List.length L) true)), (2, .c (.bool u)), (67, .c (.own 4 (List.length X))), (0, .c (.int .i64 (Int.ofNat (List.length X)))), (0, .c (.int .i64 i))], [.inp 1 L, .inp 0 c, .arr 0 w 34, .arr 4 b 4, .nown 4 (X) [] [] 35 4]⟩


noncomputable def st_ccu_r21b (l : List (Int × Int × Int)) (l_t : Bool) (c : List Int) (c_t : Bool) (L : List (Int × Int × Int)) (i : Int) (u : Bool) (w : List Int) (b : List Bool) (X : List (List Bool)) (j : Nat) (r : List Bool) : St cod := ⟨tmG 39 [(5, .c (.bool (F.con L c))), (0, .c (.int .i64 (F.conE L c))), (2, .c (.slc 3 0 (List.length L) true)), (2, .c (.bool u)), (67, .c (.own 4 (List.length X))), (0, .c (.int .i64 (Int.ofNat (List.length X)))), (0, .c (.int .i64 i))], ([.inp 1 L, .inp 0 c, .arr 0 w 34, .arr 4 b 4, .nown 4 X [j] [.own 5 (List.length r)] 35 4, .own 4 r 4] : Heap cod)⟩


theorem ccu_tr21b (l : List (Int × Int × Int)) (l_t : Bool) (c : List Int) (c_t : Bool) (L : List (Int × Int × Int)) (i : Int) (u : Bool) (w : List Int) (b : List Bool) (X : List (List Bool)) (j : Nat) (r : List Bool) : symF C_cfact cuts_ccu_r21b Try.f4.results.toList 2 400 (regAt Try.f4 21) (st_ccu_r21b l l_t c c_t L i u w b X j r) =
.need (((0 : Int) ≤ i ∧ i < Int.ofNat (List.length X))) (
.need ((0 + Int.toNat i = j ∧ j < List.length X)) (
.ret (.cut (cutAt Try.f4 23) ⟨tmG 32 [(5, .c (.bool (F.con L c))), (0, .c (.int .i64 (F.conE L c))), (2, .c (.slc 3 0 (List.length L) true)), (2, .c (.bool u)), (0, .c (.int .i64 i)), (0, .c (.own 5 (List.length r))), (65, .c (.own 4 (List.length X))), (0, .c (.int .i64 (Int.ofNat (List.length X)))), (0, .c (.int .i64 i)), (5, .c (.int .i64 (Int.ofNat (List.length r)))), (0, .c (.int .i64 0))], [.inp 1 L, .inp 0 c, .arr 0 w 34, .arr 4 b 4, .nown 4 (X) [(j)] [.own 5 (List.length r)] 35 4, .own 4 r 4]⟩))) := by kernel_rfl


noncomputable def st_ccu_23 (l : List (Int × Int × Int)) (l_t : Bool) (c : List Int) (c_t : Bool) (L : List (Int × Int × Int)) (i k : Int) (u : Bool) (w : List Int) (b : List Bool) (X : List (List Bool)) (j : Nat) (r : List Bool) : St cod := ⟨tmG 32 [(5, .c (.bool (F.con L c))), (0, .c (.int .i64 (F.conE L c))), (2, .c (.slc 3 0 (List.length L) true)), (2, .c (.bool u)), (0, .c (.int .i64 i)), (0, .c (.own 5 (List.length r))), (65, .c (.own 4 (List.length X))), (0, .c (.int .i64 (Int.ofNat (List.length X)))), (0, .c (.int .i64 i)), (5, .c (.int .i64 (Int.ofNat (List.length r)))), (0, .c (.int .i64 k))], [.inp 1 L, .inp 0 c, .arr 0 w 34, .arr 4 b 4, .nown 4 (X) [(j)] [.own 5 (List.length r)] 35 4, .own 4 r 4]⟩


theorem ccu_t23 (l : List (Int × Int × Int)) (l_t : Bool) (c : List Int) (c_t : Bool) (L : List (Int × Int × Int)) (i k : Int) (u : Bool) (w : List Int) (b : List Bool) (X : List (List Bool)) (j : Nat) (r : List Bool) : symF C_cfact cuts_ccu Try.f4.results.toList 2 400 (cutAt Try.f4 23) (st_ccu_23 l l_t c c_t L i k u w b X j r) =
 cond (decide (k < Int.ofNat (List.length r))) (
 cond (u) (
  .need (((0 : Int) ≤ k ∧ k < Int.ofNat (List.length r))) (
  .need (0 + Int.toNat k < List.length r) (
  cond (List.getD r (0 + Int.toNat k) (cod 4).d) (
   .need (((0 : Int) ≤ k ∧ k < Int.ofNat (List.length L))) (
   .need (0 + Int.toNat k < List.length b) (
   cond (List.getD b (0 + Int.toNat k) (cod 4).d) (
    .need (((0 : Int) ≤ i ∧ i < Int.ofNat (List.length L))) (
    .need (0 + Int.toNat i < List.length b) (
    .need (i64ok (k + 1)) (
    .ret (.cut (cutAt Try.f4 23) ⟨tmG 32 [(5, .c (.bool (F.con L c))), (0, .c (.int .i64 (F.conE L c))), (2, .c (.slc 3 0 (List.length L) true)), (2, .c (.bool (!!List.getD b (0 + Int.toNat i) (cod 4).d))), (0, .c (.int .i64 i)), (0, .c (.own 5 (List.length r))), (65, .c (.own 4 (List.length X))), (0, .c (.int .i64 (Int.ofNat (List.length X)))), (0, .c (.int .i64 i)), (5, .c (.int .i64 (Int.ofNat (List.length r)))), (0, .c (.int .i64 (k + 1)))], [.inp 1 L, .inp 0 c, .arr 0 w 34, .arr 4 b 4, .nown 4 (X) [(j)] [.own 5 (List.length r)] 35 4, .own 4 r 4]⟩))))) (
    .need (i64ok (k + 1)) (
    .ret (.cut (cutAt Try.f4 23) ⟨tmG 32 [(5, .c (.bool (F.con L c))), (0, .c (.int .i64 (F.conE L c))), (2, .c (.slc 3 0 (List.length L) true)), (2, .c (.bool !false)), (0, .c (.int .i64 i)), (0, .c (.own 5 (List.length r))), (65, .c (.own 4 (List.length X))), (0, .c (.int .i64 (Int.ofNat (List.length X)))), (0, .c (.int .i64 i)), (5, .c (.int .i64 (Int.ofNat (List.length r)))), (0, .c (.int .i64 (k + 1)))], [.inp 1 L, .inp 0 c, .arr 0 w 34, .arr 4 b 4, .nown 4 (X) [(j)] [.own 5 (List.length r)] 35 4, .own 4 r 4]⟩)))))) (
   .need (i64ok (k + 1)) (
   .ret (.cut (cutAt Try.f4 23) ⟨tmG 32 [(5, .c (.bool (F.con L c))), (0, .c (.int .i64 (F.conE L c))), (2, .c (.slc 3 0 (List.length L) true)), (2, .c (.bool !false)), (0, .c (.int .i64 i)), (0, .c (.own 5 (List.length r))), (65, .c (.own 4 (List.length X))), (0, .c (.int .i64 (Int.ofNat (List.length X)))), (0, .c (.int .i64 i)), (5, .c (.int .i64 (Int.ofNat (List.length r)))), (0, .c (.int .i64 (k + 1)))], [.inp 1 L, .inp 0 c, .arr 0 w 34, .arr 4 b 4, .nown 4 (X) [(j)] [.own 5 (List.length r)] 35 4, .own 4 r 4]⟩)))))) (
  .need (i64ok (k + 1)) (
  .ret (.cut (cutAt Try.f4 23) ⟨tmG 32 [(5, .c (.bool (F.con L c))), (0, .c (.int .i64 (F.conE L c))), (2, .c (.slc 3 0 (List.length L) true)), (2, .c (.bool false)), (0, .c (.int .i64 i)), (0, .c (.own 5 (List.length r))), (65, .c (.own 4 (List.length X))), (0, .c (.int .i64 (Int.ofNat (List.length X)))), (0, .c (.int .i64 i)), (5, .c (.int .i64 (Int.ofNat (List.length r)))), (0, .c (.int .i64 (k + 1)))], [.inp 1 L, .inp 0 c, .arr 0 w 34, .arr 4 b 4, .nown 4 (X) [(j)] [.own 5 (List.length r)] 35 4, .own 4 r 4]⟩)))) (
 .ret (.cut (regAt Try.f4 27) ⟨tmG 39 [(5, .c (.bool (F.con L c))), (0, .c (.int .i64 (F.conE L c))), (2, .c (.slc 3 0 (List.length L) true)), (2, .c (.bool u)), (67, .c (.own 4 (List.length X))), (0, .c (.int .i64 (Int.ofNat (List.length X)))), (0, .c (.int .i64 i))], [.inp 1 L, .inp 0 c, .arr 0 w 34, .arr 4 b 4, .nown 4 (X) [(j)] [.own 5 (List.length r)] 35 4, .own 4 r 4]⟩)) := by kernel_rfl


noncomputable def st_ccu_r27 (l : List (Int × Int × Int)) (l_t : Bool) (c : List Int) (c_t : Bool) (L : List (Int × Int × Int)) (i : Int) (u : Bool) (w : List Int) (b : List Bool) (X : List (List Bool)) : St cod := ⟨tmG 39 [(5, .c (.bool (F.con L c))), (0, .c (.int .i64 (F.conE L c))), (2, .c (.slc 3 0 (List.length L) true)), (2, .c (.bool u)), (67, .c (.own 4 (List.length X))), (0, .c (.int .i64 (Int.ofNat (List.length X)))), (0, .c (.int .i64 i))], [.inp 1 L, .inp 0 c, .arr 0 w 34, .arr 4 b 4, .nown 4 (X) [] [] 35 4]⟩


theorem ccu_tr27 (l : List (Int × Int × Int)) (l_t : Bool) (c : List Int) (c_t : Bool) (L : List (Int × Int × Int)) (i : Int) (u : Bool) (w : List Int) (b : List Bool) (X : List (List Bool)) : symF C_cfact cuts_ccu_r27 Try.f4.results.toList 2 400 (regAt Try.f4 27) (st_ccu_r27 l l_t c c_t L i u w b X) =
.need (i64ok (i + 1)) (
.ret (.cut (cutAt Try.f4 20) ⟨tmG 39 [(5, .c (.bool (F.con L c))), (0, .c (.int .i64 (F.conE L c))), (2, .c (.slc 3 0 (List.length L) true)), (2, .c (.bool u)), (67, .c (.own 4 (List.length X))), (0, .c (.int .i64 (Int.ofNat (List.length X)))), (0, .c (.int .i64 (i + 1)))], [.inp 1 L, .inp 0 c, .arr 0 w 34, .arr 4 b 4, .nown 4 (X) [] [] 35 4]⟩)) := by kernel_rfl



theorem ccu_rows (l : List (Int × Int × Int)) (l_t : Bool) (c : List Int) (c_t : Bool) (L : List (Int × Int × Int)) (w : List Int) (b : List Bool) (X : List (List Bool)) (b0 : Base) (hb : b0.n = 2) (hL : L.length ≤ 30)
    (hX : F.Mat L.length X) (hbl : b.length = L.length) (hE0 : F.conE L c = 0) (hfin : F.con L c = F.wO X b L.length L.length) :
    ∀ (r i : Nat), i + r = L.length → Sym.Runs Try.prog b0 (cutAt Try.f4 20) (st_ccu_20 l l_t c c_t L (i : Int) (F.wO X b L.length i) w b X) (Sym.Ends Try.prog Try.f4 2 (.c (.bool true)) []) := by
  have ez : (cod 4).d = false := rfl
  have hX1 := hX.1
  have hX2 := hX.2
  intro r
  induction r with
  | zero =>
    intro i hi
    have ei : i = L.length := by omega
    subst ei
    refine Runs.go (cfg := C_cfact) L_cfact_ok mixed cuts_ccu 400 hb (ccu_t20 l l_t c c_t L (L.length : Int) (F.wO X b L.length L.length) w b X) ?_
    rw [← hfin]
    generalize F.con L c = q
    simp only [T.wp, T.wp_cond, Aft, Int.ofNat_eq_natCast, decide_eq_true_eq, and_true, true_and, Nat.zero_add, Bool.not_eq_true', decide_eq_false_iff_not]
    refine ite_no (by omega) (ite_yes hE0 ?_)
    cases q <;> exact rfl
  | succ r ih =>
    intro i hi
    have nx := ih (i + 1) (by omega)
    have eO : F.wO X b L.length (i + 1) = F.wR (X.getD i []) b (b.getD i false) (F.wO X b L.length i) L.length := rfl
    rw [Int.natCast_succ, eO] at nx
    refine Runs.go (cfg := C_cfact) L_cfact_ok mixed cuts_ccu 400 hb (ccu_t20 l l_t c c_t L (i : Int) (F.wO X b L.length i) w b X) ?_
    generalize F.wO X b L.length i = u at nx ⊢
    simp only [T.wp, T.wp_cond, Aft, Int.ofNat_eq_natCast, decide_eq_true_eq, and_true, true_and, Nat.zero_add, Bool.not_eq_true', decide_eq_false_iff_not]
    have hiX : i < X.length := by omega
    have hib : i < b.length := by omega
    have hRl := hX2 i (by omega)
    refine ite_yes (by omega) ?_
    generalize eR : X.getD i [] = R at nx hRl
    refine Runs.openW 4 i (t := 4) (LL := X) (js := []) (cs := []) (ty := 35) (tyr := 4) rfl hiX List.not_mem_nil (st' := st_ccu_r21b l l_t c c_t L (i : Int) u w b X i R) (by rw [← eR]; rfl) ?_
    refine Runs.go (cfg := C_cfact) L_cfact_ok mixed cuts_ccu_r21b 400 hb (ccu_tr21b l l_t c c_t L (i : Int) u w b X i R) ?_
    simp only [T.wp, T.wp_cond, Aft, Int.ofNat_eq_natCast, decide_eq_true_eq, and_true, true_and, Nat.zero_add, Bool.not_eq_true', decide_eq_false_iff_not, Int.toNat_natCast]
    refine ⟨⟨by omega, by omega⟩, hiX, ?_⟩
    have zi : (0 : Int) ≤ (i : Int) ∧ (i : Int) < (L.length : Int) := ⟨by omega, by omega⟩
    have inner : ∀ (p k : Nat), k + p = L.length → Sym.Runs Try.prog b0 (cutAt Try.f4 23) (st_ccu_23 l l_t c c_t L (i : Int) (k : Int) (F.wR R b (b.getD i false) u k) w b X i R) (Sym.Ends Try.prog Try.f4 2 (.c (.bool true)) []) := by
      intro p
      induction p with
      | zero =>
        intro k hk
        have ek : k = L.length := by omega
        subst ek
        refine Runs.go (cfg := C_cfact) L_cfact_ok mixed cuts_ccu 400 hb (ccu_t23 l l_t c c_t L (i : Int) (L.length : Int) (F.wR R b (b.getD i false) u L.length) w b X i R) ?_
        generalize F.wR R b (b.getD i false) u L.length = v at nx ⊢
        simp only [T.wp, T.wp_cond, Aft, Int.ofNat_eq_natCast, decide_eq_true_eq, and_true, true_and, Nat.zero_add, Bool.not_eq_true', decide_eq_false_iff_not]
        refine ite_no (by omega) ?_
        refine Runs.closeW 4 (j := i) (r := 5) (N := 2) hb (t := 4) (LL := X) (js := []) (c := .own 5 (List.length R)) (cs := []) (ty := 35) (tyr := 4) (l := R) rfl hiX List.not_mem_nil rfl (by omega) (by omega) (st' := ⟨tmG 39 [(5, .c (.bool (F.con L c))), (0, .c (.int .i64 (F.conE L c))), (2, .c (.slc 3 0 (List.length L) true)), (2, .c (.bool v)), (67, .c (.own 4 (List.length X))), (0, .c (.int .i64 (Int.ofNat (List.length X)))), (0, .c (.int .i64 i))], ([.inp 1 L, .inp 0 c, .arr 0 w 34, .arr 4 b 4, .nown 4 (X.set i R) [] [] 35 4, .dead] : Heap cod)⟩) rfl ?_
        have eS : X.set i R = X := by rw [← eR]; exact F.setBB_same X i
        rw [eS]
        refine Runs.weaken (st' := st_ccu_r27 l l_t c c_t L (i : Int) v w b X) (fun a w hR => fit_rel [9, 80, 5, 6, 81, 12, 82] 5 (by omega) hR) ?_
        refine Runs.go (cfg := C_cfact) L_cfact_ok mixed cuts_ccu_r27 400 hb (ccu_tr27 l l_t c c_t L (i : Int) v w b X) ?_
        simp only [T.wp, T.wp_cond, Aft, Int.ofNat_eq_natCast, decide_eq_true_eq, and_true, true_and, Nat.zero_add, Bool.not_eq_true', decide_eq_false_iff_not]
        exact ⟨by unfold Sym.i64ok; omega, nx⟩
      | succ p ih2 =>
        intro k hk
        have nx2 := ih2 (k + 1) (by omega)
        have e2 : F.wR R b (b.getD i false) u (k + 1) = (F.wR R b (b.getD i false) u k && !(R.getD k false && b.getD k false && !(b.getD i false))) := rfl
        rw [Int.natCast_succ, e2] at nx2
        refine Runs.go (cfg := C_cfact) L_cfact_ok mixed cuts_ccu 400 hb (ccu_t23 l l_t c c_t L (i : Int) (k : Int) (F.wR R b (b.getD i false) u k) w b X i R) ?_
        generalize F.wR R b (b.getD i false) u k = v at nx2 ⊢
        simp only [T.wp, T.wp_cond, Aft, Int.ofNat_eq_natCast, decide_eq_true_eq, and_true, true_and, Nat.zero_add, Bool.not_eq_true', decide_eq_false_iff_not, Int.toNat_natCast, ez]
        have hk64 : Sym.i64ok ((k : Int) + 1) := by unfold Sym.i64ok; omega
        have zk : (0 : Int) ≤ (k : Int) ∧ (k : Int) < (R.length : Int) := ⟨by omega, by omega⟩
        have zkL : (0 : Int) ≤ (k : Int) ∧ (k : Int) < (L.length : Int) := ⟨by omega, by omega⟩
        have hkR : k < R.length := by omega
        have hkb : k < b.length := by omega
        refine ite_yes zk.2 ?_
        cases v with
        | false => exact ite_no (by decide) ⟨hk64, nx2⟩
        | true =>
          refine ite_yes rfl ⟨zk, hkR, ?_⟩
          cases c1 : R.getD k false with
          | false =>
            rw [c1] at nx2
            exact ite_no (by decide) ⟨hk64, nx2⟩
          | true =>
            rw [c1] at nx2
            refine ite_yes rfl ⟨zkL, hkb, ?_⟩
            cases c2 : b.getD k false with
            | false =>
              rw [c2] at nx2
              exact ite_no (by decide) ⟨hk64, nx2⟩
            | true =>
              rw [c2] at nx2
              exact ite_yes rfl ⟨zi, hib, hk64, nx2⟩
    exact inner L.length 0 (by omega)
theorem ccu_loop (l : List (Int × Int × Int)) (l_t : Bool) (c : List Int) (c_t : Bool) (L : List (Int × Int × Int)) (b0 : Base) (hb : b0.n = 2) (hc : F.chk L = 0) (h8 : c.length = 8) (hL : L.length ≤ 30) (hE0 : F.conE L c = 0) :
    ∀ (r k : Nat), k + r = L.length → Sym.Runs Try.prog b0 (cutAt Try.f4 13) (st_ccu_13 l l_t c c_t L (k : Int) (F.snG L k) (F.inG L c k)) (Sym.Ends Try.prog Try.f4 2 (.c (.bool true)) []) := by
  have e0 : (cod 0).d = (0 : Int) := rfl
  have ed : (cod 1).d = F.ev0 := rfl
  intro r
  induction r with
  | zero =>
    intro k hk
    have ek : k = L.length := by omega
    subst ek
    have h := ccu_rows l l_t c c_t L (F.snG L L.length) (F.inG L c L.length) (F.lea L) b0 hb hL (F.wM_mat L _) (F.inG_len L c _) hE0 (F.cuts_eq hc c h8) L.length 0 (by omega)
    have e1 : F.wO (F.lea L) (F.inG L c L.length) L.length 0 = true := rfl
    rw [e1] at h
    refine Runs.go (cfg := C_cfact) L_cfact_ok mixed cuts_ccu 400 hb (ccu_t13 l l_t c c_t L (L.length : Int) (F.snG L L.length) (F.inG L c L.length)) ?_
    generalize F.snG L L.length = w at h ⊢
    generalize F.inG L c L.length = b at h ⊢
    generalize F.lea L = X at h ⊢
    simp only [T.wp, T.wp_cond, Aft, Int.ofNat_eq_natCast, decide_eq_true_eq, and_true, true_and, Nat.zero_add, Bool.not_eq_true', decide_eq_false_iff_not]
    exact ite_no (by omega) ⟨by omega, h⟩
  | succ r ih =>
    intro k hk
    have nx := ih (k + 1) (by omega)
    have hkL : k < L.length := by omega
    have k1 := (F.chkE_ok ((F.chk_ok hc).2 k hkL)).1
    have hw8 := F.snG_len L k
    have hwb := F.snG_bound L k (L.getD k F.ev0).1.toNat
    have hbl := F.inG_len L c k
    have e1 : F.inG L c (k + 1) = (F.inG L c k).set k (decide ((F.snG L (k + 1)).getD (L.getD k F.ev0).1.toNat 0 ≤ c.getD (L.getD k F.ev0).1.toNat 0)) := rfl
    have e2 : F.snG L (k + 1) = (F.snG L k).set (L.getD k F.ev0).1.toNat ((F.snG L k).getD (L.getD k F.ev0).1.toNat 0 + 1) := rfl
    rw [Int.natCast_succ, e1, e2] at nx
    refine Runs.go (cfg := C_cfact) L_cfact_ok mixed cuts_ccu 400 hb (ccu_t13 l l_t c c_t L (k : Int) (F.snG L k) (F.inG L c k)) ?_
    generalize F.snG L k = w at nx hw8 hwb ⊢
    generalize F.inG L c k = b at nx hbl ⊢
    simp only [T.wp, T.wp_cond, Aft, Int.ofNat_eq_natCast, decide_eq_true_eq, and_true, true_and, Nat.zero_add, Bool.not_eq_true', decide_eq_false_iff_not, Int.toNat_natCast, e0, ed]
    generalize L.getD k F.ev0 = p at *
    have zL : (0 : Int) ≤ (k : Int) ∧ (k : Int) < (L.length : Int) := ⟨by omega, by omega⟩
    have zp : (0 : Int) ≤ p.1 ∧ p.1 < ((8 : Nat) : Int) := ⟨by omega, by omega⟩
    have zc : (0 : Int) ≤ p.1 ∧ p.1 < (c.length : Int) := ⟨by omega, by omega⟩
    have zw : p.1.toNat < w.length := by omega
    have zw2 : p.1.toNat < (w.set p.1.toNat (w.getD p.1.toNat 0 + 1)).length := by rw [List.length_set]; exact zw
    have zi : Sym.i64ok (w.getD p.1.toNat 0 + 1) := by unfold Sym.i64ok; omega
    have hk64 : Sym.i64ok ((k : Int) + 1) := by unfold Sym.i64ok; omega
    exact ite_yes zL.2 ⟨zL, hkL, zp, zw, zi, zp, zw, zp, zw2, zc, by omega, zL, by omega, hk64, nx⟩
theorem ccu_run (l : List (Int × Int × Int)) (l_t : Bool) (c : List Int) (c_t : Bool) (b0 : Base) (hb : b0.n = 2)  : Sym.Runs Try.prog b0 [.code (codeOf Try.f4)] ⟨argsS Try.f4 [.c (.slc 0 0 (List.length l) l_t), .c (.slc 1 0 (List.length c) c_t)], ([.inp 1 l, .inp 0 c] : Heap cod)⟩ (Sym.Ends Try.prog Try.f4 2 (.c (.bool true)) []) := by
  have main : ∀ L : List (Int × Int × Int), L.length ≤ 30 → Sym.Runs Try.prog b0 (regAt Try.f4 4) (st_ccu_r4 l l_t c c_t L) (Sym.Ends Try.prog Try.f4 2 (.c (.bool true)) []) := by
    intro L hL
    have h1M : List.length L ≤ 1000000 := by omega
    refine Runs.go (cfg := C_cfact) L_cfact_ok mixed cuts_ccu_r4 400 hb (ccu_tr4 l l_t c c_t L) ?_
    by_cases hc : F.chk L = 0
    · by_cases h8 : c.length = 8
      · have eE : F.conE L c = 0 := by unfold F.conE; rw [if_pos hc, if_pos h8]
        have h := ccu_loop l l_t c c_t L b0 hb hc h8 hL eE L.length 0 (by omega)
        simp only [T.wp, T.wp_cond, Aft, Int.ofNat_eq_natCast, decide_eq_true_eq, and_true, true_and, Nat.zero_add, Bool.not_eq_true', decide_eq_false_iff_not]
        exact ⟨h1M, h1M, ite_no (fun h => h hc) (ite_no (fun h => h (by omega)) ⟨⟨by omega, by omega⟩, h⟩)⟩
      · have eE : F.conE L c = 1 := by unfold F.conE; rw [if_pos hc, if_neg h8]
        have eC : F.con L c = false := by unfold F.con; rw [if_neg (by rw [eE]; decide)]
        rw [eE, eC]
        simp only [T.wp, T.wp_cond, Aft, Int.ofNat_eq_natCast, decide_eq_true_eq, and_true, true_and, Nat.zero_add, Bool.not_eq_true', decide_eq_false_iff_not]
        exact ⟨h1M, h1M, ite_no (fun h => h hc) (ite_yes (by omega) (ite_yes trivial rfl))⟩
    · have eE : F.conE L c = F.chk L := by unfold F.conE; rw [if_neg hc]
      have eC : F.con L c = false := by unfold F.con; rw [if_neg (by rw [eE]; exact hc)]
      rw [eE, eC]
      simp only [T.wp, T.wp_cond, Aft, Int.ofNat_eq_natCast, decide_eq_true_eq, and_true, true_and, Nat.zero_add, Bool.not_eq_true', decide_eq_false_iff_not]
      exact ⟨h1M, h1M, ite_yes hc (ite_yes trivial rfl)⟩
  refine Runs.go (cfg := C_cfact) L_cfact_ok mixed cuts_ccu 400 hb (ccu_t0 l l_t c c_t) ?_
  have e : Int.toNat (min (Int.ofNat (List.length l)) 30) = min l.length 30 := by rw [Int.ofNat_eq_natCast]; omega
  have eL : (l.take (min l.length 30)).length = min l.length 30 := by rw [List.length_take]; omega
  have h := main (l.take (min l.length 30)) (by omega)
  unfold st_ccu_r4 at h
  rw [eL] at h
  rw [e]
  simp only [T.wp, T.wp_cond, Aft, Int.ofNat_eq_natCast, decide_eq_true_eq, and_true, true_and, Nat.zero_add, Bool.not_eq_true', decide_eq_false_iff_not]
  exact ⟨⟨by omega, by omega⟩, Runs.trim 0 (min l.length 30) rfl h⟩



noncomputable def s_ccu : Summ cod := fun args H => match args, H with
  | [.c (.slc 0 l_i l_n l_t), .c (.slc 1 c_i c_n c_t)], [o0, o1] => (match o0.asInp 1 with | some l => (match o1.asInp 0 with | some c => .need ((l_i = 0 ∧ l_n = List.length l) ∧ (c_i = 0 ∧ c_n = List.length c)) (.ret (.c (.bool true), [])) | none => .fail) | none => .fail)
  | _, _ => .fail


theorem ccu_sound : Sound Try.prog cod 4 s_ccu := sound_runs (cfg := C_cfact) L_cfact_ok mixed Try.func4 rfl rfl _ fun args H r news hg b0 hb => by
  unfold s_ccu at hg
  split at hg
  · skip
    split at hg
    · rename_i l hx0
      cases asInp_spec hx0
      split at hg
      · rename_i c hx1
        cases asInp_spec hx1
        simp only [T.gives, T.wp, Prod.mk.injEq] at hg
        obtain ⟨⟨⟨rfl, rfl⟩, ⟨rfl, rfl⟩⟩, rfl, rfl⟩ := hg
        exact ccu_run _ _ _ _ b0 hb 
      · exact hg.elim
    · exact hg.elim
  · exact hg.elim

noncomputable def L_ccu : Sums cod := (4, .p s_ccu) :: L_cfact
noncomputable def C_ccu : Cfg cod := mkC L_ccu

theorem L_ccu_ok : Snd Try.prog cod L_ccu := .cons ccu_sound L_cfact_ok


end
end Go.Proofs.Ytgmnfdmlidhbcaa
