/- Part of a claim: lemmas on the way to its theorem; each states its own conditions. -/
import Derived.Test.YthljcjighomgkaaFe
namespace Go.Proofs.Ythljcjighomgkaa
open Sym Go.RowKit
noncomputable section
set_option maxRecDepth 100000
set_option maxHeartbeats 4000000

noncomputable def s_rep : Summ cod := s_ccheck

noncomputable def L_rep : Sums cod := (20, s_rep) :: L_heights
noncomputable def C_rep : Cfg cod := mkC L_rep

theorem L_rep_ok : Snd Try.prog cod L_rep := .cons rep_sound L_heights_ok



theorem F.z0 (x : Int) : F.z 0 x = x := rfl
theorem loIn_iff (a : Int × Int) (c : Int) : ∀ (bs : List (Int × Int)) (acc : Int), F.loIn a bs acc ≤ c ↔ acc ≤ c ∧ ∀ j, j < bs.length → F.pLo a (bs.getD j (0, 0)) ≤ c
  | [], acc => by simp [F.loIn]
  | b :: bs, acc => by
    have := loIn_iff a c bs (max acc (F.pLo a b))
    rw [show F.loIn a (b :: bs) acc = F.loIn a bs (max acc (F.pLo a b)) from rfl, this, Int.max_le]
    constructor
    · rintro ⟨⟨h1, h2⟩, h3⟩
      refine ⟨h1, fun j hj => ?_⟩
      cases j with
      | zero => exact h2
      | succ j => simpa using h3 j (by simpa using hj)
    · rintro ⟨h1, h2⟩
      exact ⟨⟨h1, h2 0 (by simp)⟩, fun j hj => by simpa using h2 (j + 1) (by simpa using hj)⟩
theorem hiIn_iff (a : Int × Int) (c : Int) : ∀ (bs : List (Int × Int)) (acc : Int), c ≤ F.hiIn a bs acc ↔ c ≤ acc ∧ ∀ j, j < bs.length → c ≤ F.pHi a (bs.getD j (0, 0))
  | [], acc => by simp [F.hiIn]
  | b :: bs, acc => by
    have := hiIn_iff a c bs (min acc (F.pHi a b))
    rw [show F.hiIn a (b :: bs) acc = F.hiIn a bs (min acc (F.pHi a b)) from rfl, this, Int.le_min]
    constructor
    · rintro ⟨⟨h1, h2⟩, h3⟩
      refine ⟨h1, fun j hj => ?_⟩
      cases j with
      | zero => exact h2
      | succ j => simpa using h3 j (by simpa using hj)
    · rintro ⟨h1, h2⟩
      exact ⟨⟨h1, h2 0 (by simp)⟩, fun j hj => by simpa using h2 (j + 1) (by simpa using hj)⟩
/-- All pairs of a list. -/
theorem pairs_cons {p : Int × Int → Int × Int → Prop} (a : Int × Int) (l : List (Int × Int)) : (∀ i j, i < j → j < (a :: l).length → p ((a :: l).getD i (0, 0)) ((a :: l).getD j (0, 0))) ↔ (∀ j, j < l.length → p a (l.getD j (0, 0))) ∧ ∀ i j, i < j → j < l.length → p (l.getD i (0, 0)) (l.getD j (0, 0)) := by
  constructor
  · intro h
    refine ⟨fun j hj => by simpa using h 0 (j + 1) (by omega) (by simpa using hj), fun i j hij hj => by simpa using h (i + 1) (j + 1) (by omega) (by simpa using hj)⟩
  · rintro ⟨h1, h2⟩ i j hij hj
    cases j with
    | zero => omega
    | succ j =>
      cases i with
      | zero => simpa using h1 j (by simpa using hj)
      | succ i => simpa using h2 i j (by omega) (by simpa using hj)
theorem lo_iff (c : Int) : ∀ (l : List (Int × Int)) (acc : Int), F.lo l acc ≤ c ↔ acc ≤ c ∧ ∀ i j, i < j → j < l.length → F.pLo (l.getD i (0, 0)) (l.getD j (0, 0)) ≤ c
  | [], acc => by simp [F.lo]
  | a :: l, acc => by
    rw [show F.lo (a :: l) acc = F.lo l (F.loIn a l acc) from rfl, lo_iff c l, loIn_iff, pairs_cons (p := fun a b => F.pLo a b ≤ c), and_assoc]
theorem hi_iff (c : Int) : ∀ (l : List (Int × Int)) (acc : Int), c ≤ F.hi l acc ↔ c ≤ acc ∧ ∀ i j, i < j → j < l.length → c ≤ F.pHi (l.getD i (0, 0)) (l.getD j (0, 0))
  | [], acc => by simp [F.hi]
  | a :: l, acc => by
    rw [show F.hi (a :: l) acc = F.hi l (F.hiIn a l acc) from rfl, hi_iff c l, hiIn_iff, pairs_cons (p := fun a b => c ≤ F.pHi a b), and_assoc]
/-- What the law's loops know. -/
def XI (l : List (Int × Int)) (i k x y : Int) : Prop :=
  (∀ c, x ≤ c ↔ -3200 ≤ c ∧ ∀ a b : Nat, a < b → ((b : Int) < i ∨ (b : Int) = i ∧ (a : Int) < k) → F.pLo (l.getD a (0, 0)) (l.getD b (0, 0)) ≤ c) ∧
  (∀ c, c ≤ y ↔ c ≤ 3200 ∧ ∀ a b : Nat, a < b → ((b : Int) < i ∨ (b : Int) = i ∧ (a : Int) < k) → c ≤ F.pHi (l.getD a (0, 0)) (l.getD b (0, 0)))
theorem XI_zero (l : List (Int × Int)) : XI l 0 0 (-3200) 3200 :=
  ⟨fun c => ⟨fun h => ⟨h, fun a b _ hb => by omega⟩, fun h => h.1⟩, fun c => ⟨fun h => ⟨h, fun a b _ hb => by omega⟩, fun h => h.1⟩⟩
theorem XI_next {l : List (Int × Int)} {i x y : Int} (h : XI l i i x y) : XI l (i + 1) 0 x y := by
  refine ⟨fun c => ?_, fun c => ?_⟩
  · rw [h.1 c]
    exact ⟨fun ⟨h1, h2⟩ => ⟨h1, fun a b hab hb => h2 a b hab (by omega)⟩, fun ⟨h1, h2⟩ => ⟨h1, fun a b hab hb => h2 a b hab (by omega)⟩⟩
  · rw [h.2 c]
    exact ⟨fun ⟨h1, h2⟩ => ⟨h1, fun a b hab hb => h2 a b hab (by omega)⟩, fun ⟨h1, h2⟩ => ⟨h1, fun a b hab hb => h2 a b hab (by omega)⟩⟩
theorem XI_step {l : List (Int × Int)} {i k x y : Int} (h : XI l i k x y) (h0 : 0 ≤ k) (h1 : k < i) : XI l i (k + 1) (max x (F.pLo (l.getD k.toNat (0, 0)) (l.getD i.toNat (0, 0)))) (min y (F.pHi (l.getD k.toNat (0, 0)) (l.getD i.toNat (0, 0)))) := by
  refine ⟨fun c => ?_, fun c => ?_⟩
  · rw [Int.max_le, h.1 c]
    constructor
    · rintro ⟨⟨g1, g2⟩, g3⟩
      refine ⟨g1, fun a b hab hb => ?_⟩
      by_cases hh : (b : Int) = i ∧ (a : Int) = k
      · obtain ⟨rfl, rfl⟩ := hh
        exact g3
      · exact g2 a b hab (by omega)
    · rintro ⟨g1, g2⟩
      exact ⟨⟨g1, fun a b hab hb => g2 a b hab (by omega)⟩, g2 k.toNat i.toNat (by omega) (by omega)⟩
  · rw [Int.le_min, h.2 c]
    constructor
    · rintro ⟨⟨g1, g2⟩, g3⟩
      refine ⟨g1, fun a b hab hb => ?_⟩
      by_cases hh : (b : Int) = i ∧ (a : Int) = k
      · obtain ⟨rfl, rfl⟩ := hh
        exact g3
      · exact g2 a b hab (by omega)
    · rintro ⟨g1, g2⟩
      exact ⟨⟨g1, fun a b hab hb => g2 a b hab (by omega)⟩, g2 k.toNat i.toNat (by omega) (by omega)⟩
theorem XI_end {l : List (Int × Int)} {x y : Int} (h : XI l l.length 0 x y) : x = F.lo l (-3200) ∧ y = F.hi l 3200 := by
  have g1 : ∀ c, x ≤ c ↔ F.lo l (-3200) ≤ c := fun c => by
    rw [h.1 c, lo_iff]
    exact ⟨fun ⟨h1, h2⟩ => ⟨h1, fun a b hab hb => h2 a b hab (by omega)⟩, fun ⟨h1, h2⟩ => ⟨h1, fun a b hab hb => h2 a b hab (by omega)⟩⟩
  have g2 : ∀ c, c ≤ y ↔ c ≤ F.hi l 3200 := fun c => by
    rw [h.2 c, hi_iff]
    exact ⟨fun ⟨h1, h2⟩ => ⟨h1, fun a b hab hb => h2 a b hab (by omega)⟩, fun ⟨h1, h2⟩ => ⟨h1, fun a b hab hb => h2 a b hab (by omega)⟩⟩
  exact ⟨Int.le_antisymm ((g1 _).2 (Int.le_refl _)) ((g1 _).1 (Int.le_refl _)), Int.le_antisymm ((g2 _).1 (Int.le_refl _)) ((g2 _).2 (Int.le_refl _))⟩
theorem rateE_eight {l : List (Int × Int)} (h : F.rep l = 0) (h' : F.hi l 3200 < F.lo l (-3200)) : F.rateE l = 8 := by
  unfold F.rateE
  rw [if_pos h, if_pos h']
theorem rateE_ok {l : List (Int × Int)} (h : F.rep l = 0) (h' : ¬ F.hi l 3200 < F.lo l (-3200)) : F.rateE l = 0 := by
  unfold F.rateE
  rw [if_pos h, if_neg h']


def cuts_cblaw : Cuts := [(11, [0, 9, 8, 13, 10, 1, 12, 11, 76, 77, 16, 15], 1), (14, [0, 17, 9, 8, 13, 10, 1, 12, 11, 76, 77, 80, 81, 16, 15], 1), (28, [16, 15, 1, 158, 12, 11, 13, 159, 160, 22, 21], 1)]

theorem cblaw_t0 (l : List (Int × Int)) (l_t : Bool) (t : Int) : symF C_rep cuts_cblaw Try.f4.results.toList 1 400 [.code (codeOf Try.f4)] ⟨argsS Try.f4 [.c (.slc 0 0 (List.length l) l_t), .c (.int .i64 t)], ([.inp 1 l] : Heap cod)⟩ =
.need ((0 = 0 ∧ 2 = List.length [(0, 10), (100, 20)])) (
.need ((0 = 0 ∧ List.length l = List.length l)) (
.need ((0 = 0 ∧ List.length l = List.length l)) (
.need ((0 = 0 ∧ List.length l = List.length l)) (
 cond (!decide (F.rep l = 0)) (
 .need ((0 = 0 ∧ List.length l = List.length l)) (
 cond (decide (F.rep l = F.rep l)) (
  cond (decide (F.rateE l = F.rep l)) (
   .ret (.fin (.c (.bool (decide (F.htE l t = F.rep l)))) [])) (
   .ret (.fin (.c (.bool false)) []))) (
  .ret (.fin (.c (.bool false)) [])))) (
 .ret (.cut (cutAt Try.f4 11) ⟨tmG 145 [(0, .c (.slc 0 0 (List.length l) l_t)), (0, .c (.int .i64 t)), (6, .c (.int .i64 (F.z (F.rateE l) (F.lo l (-3200))))), (0, .c (.int .i64 (F.z (F.rateE l) (F.hi l 3200)))), (0, .c (.int .i64 (F.rateE l))), (0, .c (.int .i64 (F.z (F.htE l t) (F.hlo (F.lo l (-3200)) (F.hi l 3200) t l 0)))), (0, .c (.int .i64 (F.z (F.htE l t) (F.hhi (F.lo l (-3200)) (F.hi l 3200) t l 60000)))), (0, .c (.int .i64 (F.htE l t))), (1, .c (.int .i64 (-3200))), (0, .c (.int .i64 3200)), (59, .c (.int .i64 (Int.ofNat (List.length l)))), (0, .c (.int .i64 0))], [.inp 1 l]⟩)))))) := by kernel_rfl


noncomputable def st_cblaw_11 (l : List (Int × Int)) (l_t : Bool) (t : Int) (x y i : Int) : St cod := ⟨tmG 145 [(0, .c (.slc 0 0 (List.length l) l_t)), (0, .c (.int .i64 t)), (6, .c (.int .i64 (F.z (F.rateE l) (F.lo l (-3200))))), (0, .c (.int .i64 (F.z (F.rateE l) (F.hi l 3200)))), (0, .c (.int .i64 (F.rateE l))), (0, .c (.int .i64 (F.z (F.htE l t) (F.hlo (F.lo l (-3200)) (F.hi l 3200) t l 0)))), (0, .c (.int .i64 (F.z (F.htE l t) (F.hhi (F.lo l (-3200)) (F.hi l 3200) t l 60000)))), (0, .c (.int .i64 (F.htE l t))), (1, .c (.int .i64 x)), (0, .c (.int .i64 y)), (59, .c (.int .i64 (Int.ofNat (List.length l)))), (0, .c (.int .i64 i))], [.inp 1 l]⟩


theorem cblaw_t11 (l : List (Int × Int)) (l_t : Bool) (t : Int) (x y i : Int) : symF C_rep cuts_cblaw Try.f4.results.toList 1 400 (cutAt Try.f4 11) (st_cblaw_11 l l_t t x y i) =
 cond (decide (i < Int.ofNat (List.length l))) (
 .ret (.cut (cutAt Try.f4 14) ⟨tmG 141 [(0, .c (.slc 0 0 (List.length l) l_t)), (0, .c (.int .i64 t)), (6, .c (.int .i64 (F.z (F.rateE l) (F.lo l (-3200))))), (0, .c (.int .i64 (F.z (F.rateE l) (F.hi l 3200)))), (0, .c (.int .i64 (F.rateE l))), (0, .c (.int .i64 (F.z (F.htE l t) (F.hlo (F.lo l (-3200)) (F.hi l 3200) t l 0)))), (0, .c (.int .i64 (F.z (F.htE l t) (F.hhi (F.lo l (-3200)) (F.hi l 3200) t l 60000)))), (0, .c (.int .i64 (F.htE l t))), (1, .c (.int .i64 x)), (0, .c (.int .i64 y)), (0, .c (.int .i64 i)), (58, .c (.int .i64 (Int.ofNat (List.length l)))), (0, .c (.int .i64 i)), (2, .c (.int .i64 i)), (0, .c (.int .i64 0))], [.inp 1 l]⟩)) (
 cond (decide (y < x)) (
  cond (decide (F.rateE l = 8)) (
   cond (decide (F.htE l t = 8)) (
    cond (decide (F.z (F.rateE l) (F.lo l (-3200)) = 0)) (
     .ret (.fin (.c (.bool (decide (F.z (F.rateE l) (F.hi l 3200) = 0)))) [])) (
     .ret (.fin (.c (.bool false)) []))) (
    .ret (.fin (.c (.bool false)) []))) (
   .ret (.fin (.c (.bool false)) []))) (
  cond (!decide (F.rateE l = 0)) (
   .ret (.fin (.c (.bool false)) [])) (
   cond (!decide (F.z (F.rateE l) (F.lo l (-3200)) = x)) (
    .ret (.fin (.c (.bool false)) [])) (
    cond (!decide (F.z (F.rateE l) (F.hi l 3200) = y)) (
     .ret (.fin (.c (.bool false)) [])) (
     cond (!F.inb t 0 200000) (
      .ret (.fin (.c (.bool (decide (F.htE l t = 4)))) [])) (
      .ret (.cut (cutAt Try.f4 28) ⟨tmG 62 [(1, .c (.int .i64 t)), (9, .c (.int .i64 (F.z (F.htE l t) (F.hlo (F.lo l (-3200)) (F.hi l 3200) t l 0)))), (0, .c (.int .i64 (F.z (F.htE l t) (F.hhi (F.lo l (-3200)) (F.hi l 3200) t l 60000)))), (0, .c (.int .i64 (F.htE l t))), (1, .c (.int .i64 x)), (0, .c (.int .i64 y)), (4, .c (.int .i64 0)), (0, .c (.int .i64 60000)), (135, .c (.slc 0 0 (List.length l) l_t)), (0, .c (.int .i64 (Int.ofNat (List.length l)))), (0, .c (.int .i64 0))], [.inp 1 l]⟩))))))) := by kernel_rfl


noncomputable def st_cblaw_14 (l : List (Int × Int)) (l_t : Bool) (t : Int) (x y i k : Int) : St cod := ⟨tmG 141 [(0, .c (.slc 0 0 (List.length l) l_t)), (0, .c (.int .i64 t)), (6, .c (.int .i64 (F.z (F.rateE l) (F.lo l (-3200))))), (0, .c (.int .i64 (F.z (F.rateE l) (F.hi l 3200)))), (0, .c (.int .i64 (F.rateE l))), (0, .c (.int .i64 (F.z (F.htE l t) (F.hlo (F.lo l (-3200)) (F.hi l 3200) t l 0)))), (0, .c (.int .i64 (F.z (F.htE l t) (F.hhi (F.lo l (-3200)) (F.hi l 3200) t l 60000)))), (0, .c (.int .i64 (F.htE l t))), (1, .c (.int .i64 x)), (0, .c (.int .i64 y)), (0, .c (.int .i64 i)), (58, .c (.int .i64 (Int.ofNat (List.length l)))), (0, .c (.int .i64 i)), (2, .c (.int .i64 i)), (0, .c (.int .i64 k))], [.inp 1 l]⟩


theorem cblaw_t14 (l : List (Int × Int)) (l_t : Bool) (t : Int) (x y i k : Int) : symF C_rep cuts_cblaw Try.f4.results.toList 1 400 (cutAt Try.f4 14) (st_cblaw_14 l l_t t x y i k) =
 cond (decide (k < i)) (
 .need ((0 ≤ i ∧ i < Int.ofNat (List.length l))) (
 .need (0 + Int.toNat i < List.length l) (
 .need ((0 ≤ k ∧ k < Int.ofNat (List.length l))) (
 .need (0 + Int.toNat k < List.length l) (
 .need (i64ok ((List.getD l (0 + Int.toNat i) (cod 1).d).1 - (List.getD l (0 + Int.toNat k) (cod 1).d).1)) (
 .need ((0 ≤ i ∧ i < Int.ofNat (List.length l))) (
 .need (0 + Int.toNat i < List.length l) (
 .need (i64ok (100 * (List.getD l (0 + Int.toNat i) (cod 1).d).2)) (
 .need ((0 ≤ k ∧ k < Int.ofNat (List.length l))) (
 .need (0 + Int.toNat k < List.length l) (
 .need (i64ok (100 * (List.getD l (0 + Int.toNat k) (cod 1).d).2)) (
 .need (i64ok (100 * (List.getD l (0 + Int.toNat i) (cod 1).d).2 - 100 * (List.getD l (0 + Int.toNat k) (cod 1).d).2)) (
 .need (i64ok (16 * (100 * (List.getD l (0 + Int.toNat i) (cod 1).d).2 - 100 * (List.getD l (0 + Int.toNat k) (cod 1).d).2))) (
 .need (i64ok   (16 * (100 * (List.getD l (0 + Int.toNat i) (cod 1).d).2 - 100 * (List.getD l (0 + Int.toNat k) (cod 1).d).2) - 1584)) (
 .need ((0 < (List.getD l (0 + Int.toNat i) (cod 1).d).1 - (List.getD l (0 + Int.toNat k) (cod 1).d).1 ∧ i64ok   (16 * (100 * (List.getD l (0 + Int.toNat i) (cod 1).d).2 - 100 * (List.getD l (0 + Int.toNat k) (cod 1).d).2) - 1584))) (
 .need (i64ok (16 * (100 * (List.getD l (0 + Int.toNat i) (cod 1).d).2 - 100 * (List.getD l (0 + Int.toNat k) (cod 1).d).2))) (
 .need (i64ok   (16 * (100 * (List.getD l (0 + Int.toNat i) (cod 1).d).2 - 100 * (List.getD l (0 + Int.toNat k) (cod 1).d).2) + 1584)) (
 .need ((0 < (List.getD l (0 + Int.toNat i) (cod 1).d).1 - (List.getD l (0 + Int.toNat k) (cod 1).d).1 ∧ (i64ok   (16 * (100 * (List.getD l (0 + Int.toNat i) (cod 1).d).2 - 100 * (List.getD l (0 + Int.toNat k) (cod 1).d).2) + 1584) ∧ i64ok   (-(16 * (100 * (List.getD l (0 + Int.toNat i) (cod 1).d).2 - 100 * (List.getD l (0 + Int.toNat k) (cod 1).d).2) +       1584))))) (
 .need (i64ok (k + 1)) (
 .ret (.cut (cutAt Try.f4 14) ⟨tmG 141 [(0, .c (.slc 0 0 (List.length l) l_t)), (0, .c (.int .i64 t)), (6, .c (.int .i64 (F.z (F.rateE l) (F.lo l (-3200))))), (0, .c (.int .i64 (F.z (F.rateE l) (F.hi l 3200)))), (0, .c (.int .i64 (F.rateE l))), (0, .c (.int .i64 (F.z (F.htE l t) (F.hlo (F.lo l (-3200)) (F.hi l 3200) t l 0)))), (0, .c (.int .i64 (F.z (F.htE l t) (F.hhi (F.lo l (-3200)) (F.hi l 3200) t l 60000)))), (0, .c (.int .i64 (F.htE l t))), (1, .c (.int .i64 (max x   ((16 * (100 * (List.getD l (0 + Int.toNat i) (cod 1).d).2 - 100 * (List.getD l (0 + Int.toNat k) (cod 1).d).2) -       1584) /     ((List.getD l (0 + Int.toNat i) (cod 1).d).1 - (List.getD l (0 + Int.toNat k) (cod 1).d).1))))), (0, .c (.int .i64 (min y   (-(-(16 * (100 * (List.getD l (0 + Int.toNat i) (cod 1).d).2 - 100 * (List.getD l (0 + Int.toNat k) (cod 1).d).2) +           1584) /       ((List.getD l (0 + Int.toNat i) (cod 1).d).1 - (List.getD l (0 + Int.toNat k) (cod 1).d).1)))))), (0, .c (.int .i64 i)), (58, .c (.int .i64 (Int.ofNat (List.length l)))), (0, .c (.int .i64 i)), (2, .c (.int .i64 i)), (0, .c (.int .i64 (k + 1)))], [.inp 1 l]⟩))))))))))))))))))))) (
 .need (i64ok (i + 1)) (
 .ret (.cut (cutAt Try.f4 11) ⟨tmG 145 [(0, .c (.slc 0 0 (List.length l) l_t)), (0, .c (.int .i64 t)), (6, .c (.int .i64 (F.z (F.rateE l) (F.lo l (-3200))))), (0, .c (.int .i64 (F.z (F.rateE l) (F.hi l 3200)))), (0, .c (.int .i64 (F.rateE l))), (0, .c (.int .i64 (F.z (F.htE l t) (F.hlo (F.lo l (-3200)) (F.hi l 3200) t l 0)))), (0, .c (.int .i64 (F.z (F.htE l t) (F.hhi (F.lo l (-3200)) (F.hi l 3200) t l 60000)))), (0, .c (.int .i64 (F.htE l t))), (1, .c (.int .i64 x)), (0, .c (.int .i64 y)), (59, .c (.int .i64 (Int.ofNat (List.length l)))), (0, .c (.int .i64 (i + 1)))], [.inp 1 l]⟩))) := by kernel_rfl


noncomputable def st_cblaw_28 (l : List (Int × Int)) (l_t : Bool) (t : Int) (x y i a b : Int) : St cod := ⟨tmG 62 [(1, .c (.int .i64 t)), (9, .c (.int .i64 (F.z (F.htE l t) (F.hlo (F.lo l (-3200)) (F.hi l 3200) t l 0)))), (0, .c (.int .i64 (F.z (F.htE l t) (F.hhi (F.lo l (-3200)) (F.hi l 3200) t l 60000)))), (0, .c (.int .i64 (F.htE l t))), (1, .c (.int .i64 x)), (0, .c (.int .i64 y)), (4, .c (.int .i64 a)), (0, .c (.int .i64 b)), (135, .c (.slc 0 0 (List.length l) l_t)), (0, .c (.int .i64 (Int.ofNat (List.length l)))), (0, .c (.int .i64 i))], [.inp 1 l]⟩


theorem cblaw_t28 (l : List (Int × Int)) (l_t : Bool) (t : Int) (x y i a b : Int) : symF C_rep cuts_cblaw Try.f4.results.toList 1 400 (cutAt Try.f4 28) (st_cblaw_28 l l_t t x y i a b) =
 cond (decide (i < Int.ofNat (List.length l))) (
 .need ((0 ≤ i ∧ i < Int.ofNat (List.length l))) (
 .need (0 + Int.toNat i < List.length l) (
 .need (i64ok (t - (List.getD l (0 + Int.toNat i) (cod 1).d).1)) (
 .need (i64ok (100 * (List.getD l (0 + Int.toNat i) (cod 1).d).2)) (
 .need (i64ok (x * (t - (List.getD l (0 + Int.toNat i) (cod 1).d).1))) (
 .need (i64ok (y * (t - (List.getD l (0 + Int.toNat i) (cod 1).d).1))) (
 .need (((0 : Int) < 16 ∧ i64ok   (min (x * (t - (List.getD l (0 + Int.toNat i) (cod 1).d).1)) (y * (t - (List.getD l (0 + Int.toNat i) (cod 1).d).1))))) (
 .need (i64ok   (100 * (List.getD l (0 + Int.toNat i) (cod 1).d).2 +     min (x * (t - (List.getD l (0 + Int.toNat i) (cod 1).d).1))         (y * (t - (List.getD l (0 + Int.toNat i) (cod 1).d).1)) /       16)) (
 .need (i64ok (100 * (List.getD l (0 + Int.toNat i) (cod 1).d).2)) (
 .need (i64ok (100 * (List.getD l (0 + Int.toNat i) (cod 1).d).2 + 99)) (
 .need (i64ok (x * (t - (List.getD l (0 + Int.toNat i) (cod 1).d).1))) (
 .need (i64ok (y * (t - (List.getD l (0 + Int.toNat i) (cod 1).d).1))) (
 .need (((0 : Int) < 16 ∧ (i64ok   (max (x * (t - (List.getD l (0 + Int.toNat i) (cod 1).d).1)) (y * (t - (List.getD l (0 + Int.toNat i) (cod 1).d).1))) ∧ i64ok   (-max (x * (t - (List.getD l (0 + Int.toNat i) (cod 1).d).1)) (y * (t - (List.getD l (0 + Int.toNat i) (cod 1).d).1)))))) (
 .need (i64ok   (100 * (List.getD l (0 + Int.toNat i) (cod 1).d).2 + 99 +     -(-max (x * (t - (List.getD l (0 + Int.toNat i) (cod 1).d).1))             (y * (t - (List.getD l (0 + Int.toNat i) (cod 1).d).1)) /         16))) (
 .need (i64ok (i + 1)) (
 .ret (.cut (cutAt Try.f4 28) ⟨tmG 62 [(1, .c (.int .i64 t)), (9, .c (.int .i64 (F.z (F.htE l t) (F.hlo (F.lo l (-3200)) (F.hi l 3200) t l 0)))), (0, .c (.int .i64 (F.z (F.htE l t) (F.hhi (F.lo l (-3200)) (F.hi l 3200) t l 60000)))), (0, .c (.int .i64 (F.htE l t))), (1, .c (.int .i64 x)), (0, .c (.int .i64 y)), (4, .c (.int .i64 (max a   (100 * (List.getD l (0 + Int.toNat i) (cod 1).d).2 +     min (x * (t - (List.getD l (0 + Int.toNat i) (cod 1).d).1))         (y * (t - (List.getD l (0 + Int.toNat i) (cod 1).d).1)) /       16)))), (0, .c (.int .i64 (min b   (100 * (List.getD l (0 + Int.toNat i) (cod 1).d).2 + 99 +     -(-max (x * (t - (List.getD l (0 + Int.toNat i) (cod 1).d).1))             (y * (t - (List.getD l (0 + Int.toNat i) (cod 1).d).1)) /         16))))), (135, .c (.slc 0 0 (List.length l) l_t)), (0, .c (.int .i64 (Int.ofNat (List.length l)))), (0, .c (.int .i64 (i + 1)))], [.inp 1 l]⟩))))))))))))))))) (
 cond (decide (b < a)) (
  cond (decide (F.htE l t = 8)) (
   cond (decide (F.z (F.htE l t) (F.hlo (F.lo l (-3200)) (F.hi l 3200) t l 0) = 0)) (
    .ret (.fin (.c (.bool (decide (F.z (F.htE l t) (F.hhi (F.lo l (-3200)) (F.hi l 3200) t l 60000) = 0)))) [])) (
    .ret (.fin (.c (.bool false)) []))) (
   .ret (.fin (.c (.bool false)) []))) (
  cond (decide (F.htE l t = 0)) (
   cond (decide (F.z (F.htE l t) (F.hlo (F.lo l (-3200)) (F.hi l 3200) t l 0) = a)) (
    .ret (.fin (.c (.bool (decide (F.z (F.htE l t) (F.hhi (F.lo l (-3200)) (F.hi l 3200) t l 60000) = b)))) [])) (
    .ret (.fin (.c (.bool false)) []))) (
   .ret (.fin (.c (.bool false)) [])))) := by kernel_rfl



theorem cb_loop28 (l : List (Int × Int)) (hl : F.rep l = 0) (h8 : ¬ F.hi l 3200 < F.lo l (-3200)) (l_t : Bool) (t : Int) (ht : F.inb t 0 200000 = true) (b0 : Base) (hb : b0.n = 1) : ∀ (m : Nat) (i a b : Int), 0 ≤ i → i + m = l.length → F.hlo (F.lo l (-3200)) (F.hi l 3200) t (l.drop i.toNat) a = F.hlo (F.lo l (-3200)) (F.hi l 3200) t l 0 → F.hhi (F.lo l (-3200)) (F.hi l 3200) t (l.drop i.toNat) b = F.hhi (F.lo l (-3200)) (F.hi l 3200) t l 60000 →
    Sym.Runs Try.prog b0 (cutAt Try.f4 28) (st_cblaw_28 l l_t t (F.lo l (-3200)) (F.hi l 3200) i a b) (Sym.Ends Try.prog Try.f4 1 (.c (.bool true)) []) := by
  obtain ⟨hl0, hl1, hl2⟩ := rep_zero hl
  have g3 := lo_ge l (-3200)
  have g4 := hi_le l 3200
  have g5 := rateE_ok hl h8
  have ht' : 0 ≤ t ∧ t ≤ 200000 := by simpa [F.inb] using ht
  intro m
  induction m with
  | zero =>
    intro i a b h0 hm e1 e2
    refine Runs.go (cfg := C_rep) L_rep_ok mixed cuts_cblaw 400 hb (cblaw_t28 l l_t t _ _ i a b) ?_
    have h1 : ¬ i < (l.length : Int) := by omega
    rw [drop_end l h1] at e1 e2
    simp only [F.hlo, F.hhi] at e1 e2
    have h6 : F.htE l t = if b < a then 8 else 0 := by
      unfold F.htE
      rw [if_pos g5, if_pos ht, ← e1, ← e2]
    simp only [T.wp, T.wp_cond, Aft, Int.ofNat_eq_natCast, decide_eq_true_eq, and_true, true_and, Nat.zero_add, Bool.not_eq_true', decide_eq_false_iff_not, h1, if_false, h6, ← e1, ← e2]
    by_cases h : b < a <;> simp [h, F.z]
  | succ m ih =>
    intro i a b h0 hm e1 e2
    refine Runs.go (cfg := C_rep) L_rep_ok mixed cuts_cblaw 400 hb (cblaw_t28 l l_t t _ _ i a b) ?_
    have h1 : i < (l.length : Int) := by omega
    have p1 := hl1 i.toNat (by omega)
    have hd : (cod 1).d = (0, 0) := rfl
    rw [drop_at l (0, 0) h0 h1] at e1 e2
    simp only [F.hlo, F.hhi] at e1 e2
    have nx := ih (i + 1) _ _ (by omega) (by omega) e1 e2
    have k1 : i.toNat < l.length := by omega
    clear e1 e2
    simp only [hd, Nat.zero_add] at *
    generalize l.getD i.toNat (0, 0) = e at *
    have q1 := mul_bd (x := F.lo l (-3200)) (y := t - e.1) (a := 3200) (b := 200000) (by omega) (by omega)
    have q2 := mul_bd (x := F.hi l 3200) (y := t - e.1) (a := 3200) (b := 200000) (by omega) (by omega)
    simp only [T.wp, T.wp_cond, Aft, Int.ofNat_eq_natCast, decide_eq_true_eq, and_true, true_and, Nat.zero_add, Bool.not_eq_true', decide_eq_false_iff_not, h1, if_true]
    generalize F.lo l (-3200) * (t - e.1) = u at *
    generalize F.hi l 3200 * (t - e.1) = v at *
    unfold i64ok
    refine ⟨h0, k1, by omega, by omega, by omega, by omega, by omega, by omega, by omega, by omega, by omega, by omega, by omega, by omega, by omega, nx⟩
theorem cb_loop (l : List (Int × Int)) (hl : F.rep l = 0) (l_t : Bool) (t : Int) (b0 : Base) (hb : b0.n = 1) : ∀ (m : Nat) (i x y : Int), 0 ≤ i → i + m = l.length → XI l i 0 x y →
    Sym.Runs Try.prog b0 (cutAt Try.f4 11) (st_cblaw_11 l l_t t x y i) (Sym.Ends Try.prog Try.f4 1 (.c (.bool true)) []) := by
  have hd : (cod 1).d = (0, 0) := rfl
  obtain ⟨hl0, hl1, hl2⟩ := rep_zero hl
  intro m
  induction m with
  | zero =>
    intro i x y h0 hm hx
    refine Runs.go (cfg := C_rep) L_rep_ok mixed cuts_cblaw 400 hb (cblaw_t11 l l_t t x y i) ?_
    have h1 : ¬ i < (l.length : Int) := by omega
    obtain rfl : i = l.length := by omega
    obtain ⟨rfl, rfl⟩ := XI_end hx
    simp only [T.wp, T.wp_cond, Aft, Int.ofNat_eq_natCast, decide_eq_true_eq, and_true, true_and, Nat.zero_add, Bool.not_eq_true', decide_eq_false_iff_not, h1, if_false]
    by_cases h : F.hi l 3200 < F.lo l (-3200)
    · have := rateE_eight hl h
      simp [h, F.htE, this, F.z]
    · have h7 := rateE_ok hl h
      simp only [h, h7, F.z0, if_false, if_true]
      by_cases h9 : F.inb t 0 200000 = true
      · have := cb_loop28 l hl h l_t t h9 b0 hb l.length 0 0 60000 (by omega) (by omega) (by simp) (by simp)
        simp only [h9, Bool.true_eq_false, if_false, not_true_eq_false]
        exact this
      · simp [h9, F.htE, h7]
  | succ m ih =>
    intro i x y h0 hm hx
    refine Runs.go (cfg := C_rep) L_rep_ok mixed cuts_cblaw 400 hb (cblaw_t11 l l_t t x y i) ?_
    have h1 : i < (l.length : Int) := by omega
    simp only [T.wp, T.wp_cond, Aft, Int.ofNat_eq_natCast, decide_eq_true_eq, and_true, true_and, Nat.zero_add, Bool.not_eq_true', decide_eq_false_iff_not, h1, if_true]
    have hin : ∀ (q : Nat) (k x y : Int), 0 ≤ k → k + q = i → XI l i k x y → Sym.Runs Try.prog b0 (cutAt Try.f4 14) (st_cblaw_14 l l_t t x y i k) (Sym.Ends Try.prog Try.f4 1 (.c (.bool true)) []) := by
      intro q
      induction q with
      | zero =>
        intro k x y hk0 hk hx
        refine Runs.go (cfg := C_rep) L_rep_ok mixed cuts_cblaw 400 hb (cblaw_t14 l l_t t x y i k) ?_
        have k1 : ¬ k < i := by omega
        obtain rfl : k = i := by omega
        simp only [T.wp, T.wp_cond, Aft, Int.ofNat_eq_natCast, decide_eq_true_eq, and_true, true_and, Nat.zero_add, Bool.not_eq_true', decide_eq_false_iff_not, k1, if_false]
        exact ⟨by unfold i64ok; omega, ih (k + 1) x y (by omega) (by omega) (XI_next hx)⟩
      | succ q ihq =>
        intro k x y hk0 hk hx
        refine Runs.go (cfg := C_rep) L_rep_ok mixed cuts_cblaw 400 hb (cblaw_t14 l l_t t x y i k) ?_
        have k1 : k < i := by omega
        have k2 : k < (l.length : Int) := by omega
        have k3 : i.toNat < l.length := by omega
        have k4 : k.toNat < l.length := by omega
        have p1 := hl1 _ k3
        have p2 := hl1 _ k4
        have p3 := hl2 k.toNat i.toNat (by omega) k3
        have nx := ihq (k + 1) _ _ (by omega) (by omega) (XI_step hx hk0 k1)
        unfold F.pLo F.pHi at nx
        simp only [hd, Nat.zero_add, T.wp, T.wp_cond, Aft, Int.ofNat_eq_natCast, decide_eq_true_eq, and_true, true_and, Nat.zero_add, Bool.not_eq_true', decide_eq_false_iff_not, k1, k2, h1, if_true]
        generalize l.getD i.toNat (0, 0) = eb at *
        generalize l.getD k.toNat (0, 0) = ea at *
        have e1 : 16 * (100 * (eb.2 - ea.2) - 99) = 16 * (100 * eb.2 - 100 * ea.2) - 1584 := by omega
        have e2 : 16 * (100 * (eb.2 - ea.2) + 99) = 16 * (100 * eb.2 - 100 * ea.2) + 1584 := by omega
        rw [e1, e2] at nx
        unfold i64ok
        refine ⟨h0, k3, hk0, k4, by omega, h0, k3, by omega, hk0, k4, by omega, by omega, by omega, by omega, by omega, by omega, by omega, by omega, by omega, nx⟩
    exact hin i.toNat 0 x y (by omega) (by omega) hx
theorem cblaw_run (l : List (Int × Int)) (l_t : Bool) (t : Int) (b0 : Base) (hb : b0.n = 1)  : Sym.Runs Try.prog b0 [.code (codeOf Try.f4)] ⟨argsS Try.f4 [.c (.slc 0 0 (List.length l) l_t), .c (.int .i64 t)], ([.inp 1 l] : Heap cod)⟩ (Sym.Ends Try.prog Try.f4 1 (.c (.bool true)) []) := by
  refine Runs.go (cfg := C_rep) L_rep_ok mixed cuts_cblaw 400 hb (cblaw_t0 l l_t t) ?_
  simp only [T.wp, T.wp_cond, Aft, Int.ofNat_eq_natCast, decide_eq_true_eq, and_true, true_and, Nat.zero_add, Bool.not_eq_true', decide_eq_false_iff_not, List.length_cons, List.length_nil]
  by_cases h : F.rep l = 0
  · have := cb_loop l h l_t t b0 hb l.length 0 (-3200) 3200 (by omega) (by omega) (XI_zero l)
    simp only [h, not_true_eq_false, if_false]
    exact this
  · simp [h, F.rateE, F.htE]



noncomputable def s_cblaw : Summ cod := fun args H => match args, H with
  | [.c (.slc 0 l_i l_n l_t), .c (.int .i64 t)], [o0] => (match o0.asInp 1 with | some l => .need ((l_i = 0 ∧ l_n = List.length l)) (.ret (.c (.bool true), [])) | none => .fail)
  | _, _ => .fail


theorem cblaw_sound : Sound Try.prog cod 4 s_cblaw := sound_runs (cfg := C_rep) L_rep_ok mixed Try.func4 rfl rfl _ fun args H r news hg b0 hb => by
  unfold s_cblaw at hg
  split at hg
  · skip
    split at hg
    · rename_i l hx0
      cases asInp_spec hx0
      simp only [T.gives, T.wp, Prod.mk.injEq] at hg
      obtain ⟨⟨rfl, rfl⟩, rfl, rfl⟩ := hg
      exact cblaw_run _ _ _ b0 hb 
    · exact hg.elim
  · exact hg.elim

noncomputable def L_cblaw : Sums cod := (4, s_cblaw) :: L_rep
noncomputable def C_cblaw : Cfg cod := mkC L_cblaw

theorem L_cblaw_ok : Snd Try.prog cod L_cblaw := .cons cblaw_sound L_rep_ok


end
end Go.Proofs.Ythljcjighomgkaa
