/- Part of a claim: lemmas on the way to its theorem; each states its own conditions. -/
import Derived.Test.YtffcfbamcaoidaaGx
namespace Go.Proofs.Ytffcfbamcaoidaa
open Sym Go.RowKit
noncomputable section
set_option maxRecDepth 100000
set_option maxHeartbeats 4000000

namespace F
def anyI (p : Int → Bool) : Nat → Int → Bool
  | 0, _ => false
  | m + 1, i => p i || anyI p m (i + 1)
abbrev at4 (l : List Q4) (i : Int) : Q4 := List.getD l (0 + Int.toNat i) q0
abbrev at0 (l : List Int) (i : Int) : Int := List.getD l (0 + Int.toNat i) 0
def boxAt (l : List Q4) (sp : List Int) (i : Int) : Q4 := boxQ (at4 l i) (at0 sp i)
def fitR (l : List Q4) (sp : List Int) : Nat → Int → Bool
  | 0, _ => true
  | m + 1, i => !(anyI (fun j => meet (boxAt l sp i) (pt1 (at4 l j))) l.length 0) && (!(anyI (fun k => meet (boxAt l sp i) (boxAt l sp k)) i.toNat 0) && fitR l sp m (i + 1))
def fitL (l : List Q4) (sp : List Int) : Bool := fitR l sp l.length 0
def spots (sp : List Int) : Prop := ∀ x ∈ sp, 0 ≤ x ∧ x < 8
def inC (c : Q4) (row col : Int) : Bool := meet c (col, row, 1, 1)
end F


theorem ite_yes {c : Prop} [Decidable c] {a b : Prop} (h : c) (x : a) : if c then a else b := by rw [if_pos h]; exact x
theorem ite_no {c : Prop} [Decidable c] {a b : Prop} (h : ¬ c) (x : b) : if c then a else b := by rw [if_neg h]; exact x
namespace F
theorem anyI_iff {p : Int → Bool} : ∀ {m : Nat} {i : Int}, anyI p m i = true ↔ ∃ j, i ≤ j ∧ j < i + m ∧ p j = true
  | 0, i => by
    simp only [anyI, Bool.false_eq_true, false_iff]
    rintro ⟨j, h1, h2, _⟩
    omega
  | m + 1, i => by
    rw [anyI, Bool.or_eq_true, anyI_iff (m := m)]
    constructor
    · rintro (h | ⟨j, h1, h2, h3⟩)
      · exact ⟨i, by omega, by omega, h⟩
      · exact ⟨j, by omega, by omega, h3⟩
    · rintro ⟨j, h1, h2, h3⟩
      by_cases e : j = i
      · exact .inl (e ▸ h3)
      · exact .inr ⟨j, by omega, by omega, h3⟩
theorem at4_ok {l : List Q4} (h : allok l) {i : Int} (h0 : 0 ≤ i) (h1 : i < l.length) : ok4 (at4 l i) := by
  have := ok_get h (n := 0 + i.toNat) (by omega)
  exact this
theorem at0_ok {l : List Int} (h : spots l) {i : Int} (h0 : 0 ≤ i) (h1 : i < l.length) : 0 ≤ at0 l i ∧ at0 l i < 8 := by
  have hn : 0 + i.toNat < l.length := by omega
  exact h _ (by unfold at0; rw [List.getD, List.getElem?_eq_getElem hn]; exact List.getElem_mem hn)
/-- The rectangle of a label: its sides are the label's own, its corner is near. -/
theorem box_bd {x : Q4} (h : ok4 x) {k : Int} (h0 : 0 ≤ k) (h1 : k < 8) : (-2000 ≤ (boxQ x k).1 ∧ (boxQ x k).1 ≤ 2000) ∧ (-2000 ≤ (boxQ x k).2.1 ∧ (boxQ x k).2.1 ≤ 2000) ∧ (1 ≤ (boxQ x k).2.2.1 ∧ (boxQ x k).2.2.1 ≤ 40) ∧ (1 ≤ (boxQ x k).2.2.2 ∧ (boxQ x k).2.2.2 ≤ 40) := by
  obtain ⟨x1, x2, x3, x4⟩ := x
  obtain ⟨g1, g2, g3, g4⟩ := h
  simp only at g1 g2 g3 g4
  have u1 := tdiv2 g3
  have u2 := tdiv2 g4
  unfold boxQ bX bY
  simp only
  refine ⟨?_, ?_, ?_, ?_⟩
  · split
    · omega
    · split <;> omega
  · split
    · omega
    · split <;> omega
  · omega
  · omega
theorem cells_meet {b c : Q4} (hb : 1 ≤ b.2.2.1 ∧ 1 ≤ b.2.2.2) (hc : 1 ≤ c.2.2.1 ∧ 1 ≤ c.2.2.2) : anyI (fun row => anyI (inC c row) b.2.2.1.toNat b.1) b.2.2.2.toNat b.2.1 = meet b c := by
  obtain ⟨b1, b2, b3, b4⟩ := b
  obtain ⟨c1, c2, c3, c4⟩ := c
  simp only at hb hc
  rw [Bool.eq_iff_iff, anyI_iff]
  simp only [anyI_iff]
  unfold inC meet
  simp only [Bool.and_eq_true, decide_eq_true_eq]
  constructor
  · rintro ⟨row, h1, h2, col, h3, h4, h5⟩
    omega
  · intro h
    refine ⟨max b2 c2, by omega, by omega, max b1 c1, by omega, by omega, by omega⟩
end F


def cuts_fit : Cuts := [(2, [1, 0, 15, 16, 17], 2), (7, [7, 33, 1, 0, 15, 16, 17, 5, 34, 35], 4), (13, [7, 1, 48, 0, 15, 16, 17, 49, 50], 4), (18, [13, 12, 7, 1, 48, 0, 15, 16, 17, 49, 50], 6), (21, [13, 12, 7, 1, 48, 0, 15, 16, 17, 49, 50, 14], 6)]

theorem fit_t0 (l : List (Int × Int × Int × Int)) (l_t : Bool) (sp : List Int) (sp_t : Bool) : symF C_equal cuts_fit Try.f36.results.toList 2 400 [.code (codeOf Try.f36)] ⟨argsS Try.f36 [.c (.slc 0 0 (List.length l) l_t), .c (.slc 1 0 (List.length sp) sp_t)], ([.inp 4 l, .inp 0 sp] : Heap cod)⟩ =
.ret (.cut (cutAt Try.f36 2) ⟨tmG 76 [(0, .c (.slc 0 0 (List.length l) l_t)), (0, .c (.slc 1 0 (List.length sp) sp_t)), (13, .c (.slc 0 0 (List.length l) l_t)), (0, .c (.int .i64 (Int.ofNat (List.length l)))), (0, .c (.int .i64 0))], [.inp 4 l, .inp 0 sp]⟩) := by kernel_rfl


noncomputable def st_fit_2 (l : List (Int × Int × Int × Int)) (l_t : Bool) (sp : List Int) (sp_t : Bool) (i : Int) : St cod := ⟨tmG 76 [(0, .c (.slc 0 0 (List.length l) l_t)), (0, .c (.slc 1 0 (List.length sp) sp_t)), (13, .c (.slc 0 0 (List.length l) l_t)), (0, .c (.int .i64 (Int.ofNat (List.length l)))), (0, .c (.int .i64 i))], [.inp 4 l, .inp 0 sp]⟩


theorem fit_t2 (l : List (Int × Int × Int × Int)) (l_t : Bool) (sp : List Int) (sp_t : Bool) (i : Int) : symF C_equal cuts_fit Try.f36.results.toList 2 400 (cutAt Try.f36 2) (st_fit_2 l l_t sp sp_t i) =
 cond (decide (i < Int.ofNat (List.length l))) (
 .need (((0 : Int) ≤ i ∧ i < Int.ofNat (List.length l))) (
 .need (0 + Int.toNat i < List.length l) (
 .need (((0 : Int) ≤ i ∧ i < Int.ofNat (List.length sp))) (
 .need (0 + Int.toNat i < List.length sp) (
 cond (decide (List.getD sp (0 + Int.toNat i) (cod 0).d < 0)) (
  .need (i64ok (i + 1)) (
  .ret (.cut (cutAt Try.f36 2) ⟨tmG 76 [(0, .c (.slc 0 0 (List.length l) l_t)), (0, .c (.slc 1 0 (List.length sp) sp_t)), (13, .c (.slc 0 0 (List.length l) l_t)), (0, .c (.int .i64 (Int.ofNat (List.length l)))), (0, .c (.int .i64 (i + 1)))], [.inp 4 l, .inp 0 sp]⟩))) (
  .need (((0 : Int) ≤ i ∧ i < Int.ofNat (List.length sp))) (
  .need (0 + Int.toNat i < List.length sp) (
  .need (F.lab (List.getD l (0 + Int.toNat i) (cod 4).d).1 (List.getD l (0 + Int.toNat i) (cod 4).d).2.1   (List.getD l (0 + Int.toNat i) (cod 4).d).2.2.1 (List.getD l (0 + Int.toNat i) (cod 4).d).2.2.2   (List.getD sp (0 + Int.toNat i) (cod 0).d)) (
  .ret (.cut (cutAt Try.f36 7) ⟨tmG 58 [(0, .c (.slc 0 0 (List.length l) l_t)), (0, .c (.slc 1 0 (List.length sp) sp_t)), (3, .c (.int .i64 i)), (1, .c (.ptr 3 0 0)), (7, .c (.slc 0 0 (List.length l) l_t)), (0, .c (.int .i64 (Int.ofNat (List.length l)))), (0, .c (.int .i64 i)), (15, .c (.slc 0 0 (List.length l) l_t)), (0, .c (.int .i64 (Int.ofNat (List.length l)))), (0, .c (.int .i64 0))], [.inp 4 l, .inp 0 sp, .blk [.int .i64 ((List.getD l (0 + Int.toNat i) (cod 4).d).1), .int .i64 ((List.getD l (0 + Int.toNat i) (cod 4).d).2.1), .int .i64 ((List.getD l (0 + Int.toNat i) (cod 4).d).2.2.1), .int .i64 ((List.getD l (0 + Int.toNat i) (cod 4).d).2.2.2)] 63, .blk [.int .i64 (F.bX (List.getD l (0 + Int.toNat i) (cod 4).d).1 (List.getD l (0 + Int.toNat i) (cod 4).d).2.1   (List.getD l (0 + Int.toNat i) (cod 4).d).2.2.1 (List.getD l (0 + Int.toNat i) (cod 4).d).2.2.2   (List.getD sp (0 + Int.toNat i) (cod 0).d)), .int .i64 (F.bY (List.getD l (0 + Int.toNat i) (cod 4).d).1 (List.getD l (0 + Int.toNat i) (cod 4).d).2.1   (List.getD l (0 + Int.toNat i) (cod 4).d).2.2.1 (List.getD l (0 + Int.toNat i) (cod 4).d).2.2.2   (List.getD sp (0 + Int.toNat i) (cod 0).d)), .int .i64 ((List.getD l (0 + Int.toNat i) (cod 4).d).2.2.1), .int .i64 ((List.getD l (0 + Int.toNat i) (cod 4).d).2.2.2)] 66]⟩)))))))))) (
 .ret (.fin (.c (.bool true)) [])) := by kernel_rfl


noncomputable def st_fit_7 (l : List (Int × Int × Int × Int)) (l_t : Bool) (sp : List Int) (sp_t : Bool) (i j : Int) : St cod := ⟨tmG 58 [(0, .c (.slc 0 0 (List.length l) l_t)), (0, .c (.slc 1 0 (List.length sp) sp_t)), (3, .c (.int .i64 i)), (1, .c (.ptr 3 0 0)), (7, .c (.slc 0 0 (List.length l) l_t)), (0, .c (.int .i64 (Int.ofNat (List.length l)))), (0, .c (.int .i64 i)), (15, .c (.slc 0 0 (List.length l) l_t)), (0, .c (.int .i64 (Int.ofNat (List.length l)))), (0, .c (.int .i64 j))], [.inp 4 l, .inp 0 sp, .blk [.int .i64 ((List.getD l (0 + Int.toNat i) (cod 4).d).1), .int .i64 ((List.getD l (0 + Int.toNat i) (cod 4).d).2.1), .int .i64 ((List.getD l (0 + Int.toNat i) (cod 4).d).2.2.1), .int .i64 ((List.getD l (0 + Int.toNat i) (cod 4).d).2.2.2)] 63, .blk [.int .i64 (F.bX (List.getD l (0 + Int.toNat i) (cod 4).d).1 (List.getD l (0 + Int.toNat i) (cod 4).d).2.1   (List.getD l (0 + Int.toNat i) (cod 4).d).2.2.1 (List.getD l (0 + Int.toNat i) (cod 4).d).2.2.2   (List.getD sp (0 + Int.toNat i) (cod 0).d)), .int .i64 (F.bY (List.getD l (0 + Int.toNat i) (cod 4).d).1 (List.getD l (0 + Int.toNat i) (cod 4).d).2.1   (List.getD l (0 + Int.toNat i) (cod 4).d).2.2.1 (List.getD l (0 + Int.toNat i) (cod 4).d).2.2.2   (List.getD sp (0 + Int.toNat i) (cod 0).d)), .int .i64 ((List.getD l (0 + Int.toNat i) (cod 4).d).2.2.1), .int .i64 ((List.getD l (0 + Int.toNat i) (cod 4).d).2.2.2)] 66]⟩


theorem fit_t7 (l : List (Int × Int × Int × Int)) (l_t : Bool) (sp : List Int) (sp_t : Bool) (i j : Int) : symF C_equal cuts_fit Try.f36.results.toList 2 400 (cutAt Try.f36 7) (st_fit_7 l l_t sp sp_t i j) =
 cond (decide (j < Int.ofNat (List.length l))) (
 .need (((0 : Int) ≤ j ∧ j < Int.ofNat (List.length l))) (
 .need (0 + Int.toNat j < List.length l) (
 .need (F.bq   (F.bX (List.getD l (0 + Int.toNat i) (cod 4).d).1 (List.getD l (0 + Int.toNat i) (cod 4).d).2.1       (List.getD l (0 + Int.toNat i) (cod 4).d).2.2.1 (List.getD l (0 + Int.toNat i) (cod 4).d).2.2.2       (List.getD sp (0 + Int.toNat i) (cod 0).d),     F.bY (List.getD l (0 + Int.toNat i) (cod 4).d).1 (List.getD l (0 + Int.toNat i) (cod 4).d).2.1       (List.getD l (0 + Int.toNat i) (cod 4).d).2.2.1 (List.getD l (0 + Int.toNat i) (cod 4).d).2.2.2       (List.getD sp (0 + Int.toNat i) (cod 0).d),     (List.getD l (0 + Int.toNat i) (cod 4).d).2.2.1, (List.getD l (0 + Int.toNat i) (cod 4).d).2.2.2)) (
 cond (F.meet   (F.bX (List.getD l (0 + Int.toNat i) (cod 4).d).1 (List.getD l (0 + Int.toNat i) (cod 4).d).2.1       (List.getD l (0 + Int.toNat i) (cod 4).d).2.2.1 (List.getD l (0 + Int.toNat i) (cod 4).d).2.2.2       (List.getD sp (0 + Int.toNat i) (cod 0).d),     F.bY (List.getD l (0 + Int.toNat i) (cod 4).d).1 (List.getD l (0 + Int.toNat i) (cod 4).d).2.1       (List.getD l (0 + Int.toNat i) (cod 4).d).2.2.1 (List.getD l (0 + Int.toNat i) (cod 4).d).2.2.2       (List.getD sp (0 + Int.toNat i) (cod 0).d),     (List.getD l (0 + Int.toNat i) (cod 4).d).2.2.1, (List.getD l (0 + Int.toNat i) (cod 4).d).2.2.2)   ((List.getD l (0 + Int.toNat j) (cod 4).d).1, (List.getD l (0 + Int.toNat j) (cod 4).d).2.1, 1, 1)) (
  .ret (.fin (.c (.bool false)) [])) (
  .need (i64ok (j + 1)) (
  .ret (.cut (cutAt Try.f36 7) ⟨tmG 58 [(0, .c (.slc 0 0 (List.length l) l_t)), (0, .c (.slc 1 0 (List.length sp) sp_t)), (3, .c (.int .i64 i)), (1, .c (.ptr 3 0 0)), (7, .c (.slc 0 0 (List.length l) l_t)), (0, .c (.int .i64 (Int.ofNat (List.length l)))), (0, .c (.int .i64 i)), (15, .c (.slc 0 0 (List.length l) l_t)), (0, .c (.int .i64 (Int.ofNat (List.length l)))), (0, .c (.int .i64 (j + 1)))], [.inp 4 l, .inp 0 sp, .blk [.int .i64 ((List.getD l (0 + Int.toNat i) (cod 4).d).1), .int .i64 ((List.getD l (0 + Int.toNat i) (cod 4).d).2.1), .int .i64 ((List.getD l (0 + Int.toNat i) (cod 4).d).2.2.1), .int .i64 ((List.getD l (0 + Int.toNat i) (cod 4).d).2.2.2)] 63, .blk [.int .i64 (F.bX (List.getD l (0 + Int.toNat i) (cod 4).d).1 (List.getD l (0 + Int.toNat i) (cod 4).d).2.1   (List.getD l (0 + Int.toNat i) (cod 4).d).2.2.1 (List.getD l (0 + Int.toNat i) (cod 4).d).2.2.2   (List.getD sp (0 + Int.toNat i) (cod 0).d)), .int .i64 (F.bY (List.getD l (0 + Int.toNat i) (cod 4).d).1 (List.getD l (0 + Int.toNat i) (cod 4).d).2.1   (List.getD l (0 + Int.toNat i) (cod 4).d).2.2.1 (List.getD l (0 + Int.toNat i) (cod 4).d).2.2.2   (List.getD sp (0 + Int.toNat i) (cod 0).d)), .int .i64 ((List.getD l (0 + Int.toNat i) (cod 4).d).2.2.1), .int .i64 ((List.getD l (0 + Int.toNat i) (cod 4).d).2.2.2)] 66]⟩))))))) (
 .need (((0 : Int) ≤ i ∧ i ≤ Int.ofNat (List.length l))) (
 .ret (.cut (cutAt Try.f36 13) ⟨tmG 43 [(0, .c (.slc 0 0 (List.length l) l_t)), (0, .c (.slc 1 0 (List.length sp) sp_t)), (5, .c (.ptr 3 0 0)), (7, .c (.slc 0 0 (List.length l) l_t)), (0, .c (.int .i64 (Int.ofNat (List.length l)))), (0, .c (.int .i64 i)), (30, .c (.slc 0 0 (Int.toNat i) false)), (0, .c (.int .i64 (Int.ofNat (Int.toNat i)))), (0, .c (.int .i64 0))], [.inp 4 l, .inp 0 sp, .blk [.int .i64 ((List.getD l (0 + Int.toNat i) (cod 4).d).1), .int .i64 ((List.getD l (0 + Int.toNat i) (cod 4).d).2.1), .int .i64 ((List.getD l (0 + Int.toNat i) (cod 4).d).2.2.1), .int .i64 ((List.getD l (0 + Int.toNat i) (cod 4).d).2.2.2)] 63, .blk [.int .i64 (F.bX (List.getD l (0 + Int.toNat i) (cod 4).d).1 (List.getD l (0 + Int.toNat i) (cod 4).d).2.1   (List.getD l (0 + Int.toNat i) (cod 4).d).2.2.1 (List.getD l (0 + Int.toNat i) (cod 4).d).2.2.2   (List.getD sp (0 + Int.toNat i) (cod 0).d)), .int .i64 (F.bY (List.getD l (0 + Int.toNat i) (cod 4).d).1 (List.getD l (0 + Int.toNat i) (cod 4).d).2.1   (List.getD l (0 + Int.toNat i) (cod 4).d).2.2.1 (List.getD l (0 + Int.toNat i) (cod 4).d).2.2.2   (List.getD sp (0 + Int.toNat i) (cod 0).d)), .int .i64 ((List.getD l (0 + Int.toNat i) (cod 4).d).2.2.1), .int .i64 ((List.getD l (0 + Int.toNat i) (cod 4).d).2.2.2)] 66]⟩))) := by kernel_rfl


noncomputable def st_fit_13 (l : List (Int × Int × Int × Int)) (l_t : Bool) (sp : List Int) (sp_t : Bool) (i k : Int) : St cod := ⟨tmG 43 [(0, .c (.slc 0 0 (List.length l) l_t)), (0, .c (.slc 1 0 (List.length sp) sp_t)), (5, .c (.ptr 3 0 0)), (7, .c (.slc 0 0 (List.length l) l_t)), (0, .c (.int .i64 (Int.ofNat (List.length l)))), (0, .c (.int .i64 i)), (30, .c (.slc 0 0 (Int.toNat i) false)), (0, .c (.int .i64 (Int.ofNat (Int.toNat i)))), (0, .c (.int .i64 k))], [.inp 4 l, .inp 0 sp, .blk [.int .i64 ((List.getD l (0 + Int.toNat i) (cod 4).d).1), .int .i64 ((List.getD l (0 + Int.toNat i) (cod 4).d).2.1), .int .i64 ((List.getD l (0 + Int.toNat i) (cod 4).d).2.2.1), .int .i64 ((List.getD l (0 + Int.toNat i) (cod 4).d).2.2.2)] 63, .blk [.int .i64 (F.bX (List.getD l (0 + Int.toNat i) (cod 4).d).1 (List.getD l (0 + Int.toNat i) (cod 4).d).2.1   (List.getD l (0 + Int.toNat i) (cod 4).d).2.2.1 (List.getD l (0 + Int.toNat i) (cod 4).d).2.2.2   (List.getD sp (0 + Int.toNat i) (cod 0).d)), .int .i64 (F.bY (List.getD l (0 + Int.toNat i) (cod 4).d).1 (List.getD l (0 + Int.toNat i) (cod 4).d).2.1   (List.getD l (0 + Int.toNat i) (cod 4).d).2.2.1 (List.getD l (0 + Int.toNat i) (cod 4).d).2.2.2   (List.getD sp (0 + Int.toNat i) (cod 0).d)), .int .i64 ((List.getD l (0 + Int.toNat i) (cod 4).d).2.2.1), .int .i64 ((List.getD l (0 + Int.toNat i) (cod 4).d).2.2.2)] 66]⟩


theorem fit_t13 (l : List (Int × Int × Int × Int)) (l_t : Bool) (sp : List Int) (sp_t : Bool) (i k : Int) : symF C_equal cuts_fit Try.f36.results.toList 2 400 (cutAt Try.f36 13) (st_fit_13 l l_t sp sp_t i k) =
 cond (decide (k < Int.ofNat (Int.toNat i))) (
 .need (((0 : Int) ≤ k ∧ k < Int.ofNat (Int.toNat i))) (
 .need (0 + Int.toNat k < List.length l) (
 .need (((0 : Int) ≤ k ∧ k < Int.ofNat (List.length sp))) (
 .need (0 + Int.toNat k < List.length sp) (
 cond (decide (List.getD sp (0 + Int.toNat k) (cod 0).d < 0)) (
  .need (i64ok (k + 1)) (
  .ret (.cut (cutAt Try.f36 13) ⟨tmG 43 [(0, .c (.slc 0 0 (List.length l) l_t)), (0, .c (.slc 1 0 (List.length sp) sp_t)), (5, .c (.ptr 3 0 0)), (7, .c (.slc 0 0 (List.length l) l_t)), (0, .c (.int .i64 (Int.ofNat (List.length l)))), (0, .c (.int .i64 i)), (30, .c (.slc 0 0 (Int.toNat i) false)), (0, .c (.int .i64 (Int.ofNat (Int.toNat i)))), (0, .c (.int .i64 (k + 1)))], [.inp 4 l, .inp 0 sp, .blk [.int .i64 ((List.getD l (0 + Int.toNat i) (cod 4).d).1), .int .i64 ((List.getD l (0 + Int.toNat i) (cod 4).d).2.1), .int .i64 ((List.getD l (0 + Int.toNat i) (cod 4).d).2.2.1), .int .i64 ((List.getD l (0 + Int.toNat i) (cod 4).d).2.2.2)] 63, .blk [.int .i64 (F.bX (List.getD l (0 + Int.toNat i) (cod 4).d).1 (List.getD l (0 + Int.toNat i) (cod 4).d).2.1   (List.getD l (0 + Int.toNat i) (cod 4).d).2.2.1 (List.getD l (0 + Int.toNat i) (cod 4).d).2.2.2   (List.getD sp (0 + Int.toNat i) (cod 0).d)), .int .i64 (F.bY (List.getD l (0 + Int.toNat i) (cod 4).d).1 (List.getD l (0 + Int.toNat i) (cod 4).d).2.1   (List.getD l (0 + Int.toNat i) (cod 4).d).2.2.1 (List.getD l (0 + Int.toNat i) (cod 4).d).2.2.2   (List.getD sp (0 + Int.toNat i) (cod 0).d)), .int .i64 ((List.getD l (0 + Int.toNat i) (cod 4).d).2.2.1), .int .i64 ((List.getD l (0 + Int.toNat i) (cod 4).d).2.2.2)] 66]⟩))) (
  .need (((0 : Int) ≤ k ∧ k < Int.ofNat (List.length sp))) (
  .need (0 + Int.toNat k < List.length sp) (
  .need (F.lab (List.getD l (0 + Int.toNat k) (cod 4).d).1 (List.getD l (0 + Int.toNat k) (cod 4).d).2.1   (List.getD l (0 + Int.toNat k) (cod 4).d).2.2.1 (List.getD l (0 + Int.toNat k) (cod 4).d).2.2.2   (List.getD sp (0 + Int.toNat k) (cod 0).d)) (
  .ret (.cut (cutAt Try.f36 18) ⟨tmG 43 [(0, .c (.slc 0 0 (List.length l) l_t)), (0, .c (.slc 1 0 (List.length sp) sp_t)), (5, .c (.ptr 3 0 0)), (4, .c (.ptr 5 0 0)), (0, .c (.int .i64 (F.bY (List.getD l (0 + Int.toNat i) (cod 4).d).1 (List.getD l (0 + Int.toNat i) (cod 4).d).2.1   (List.getD l (0 + Int.toNat i) (cod 4).d).2.2.1 (List.getD l (0 + Int.toNat i) (cod 4).d).2.2.2   (List.getD sp (0 + Int.toNat i) (cod 0).d)))), (1, .c (.slc 0 0 (List.length l) l_t)), (0, .c (.int .i64 (Int.ofNat (List.length l)))), (0, .c (.int .i64 i)), (30, .c (.slc 0 0 (Int.toNat i) false)), (0, .c (.int .i64 (Int.ofNat (Int.toNat i)))), (0, .c (.int .i64 k))], [.inp 4 l, .inp 0 sp, .blk [.int .i64 ((List.getD l (0 + Int.toNat i) (cod 4).d).1), .int .i64 ((List.getD l (0 + Int.toNat i) (cod 4).d).2.1), .int .i64 ((List.getD l (0 + Int.toNat i) (cod 4).d).2.2.1), .int .i64 ((List.getD l (0 + Int.toNat i) (cod 4).d).2.2.2)] 63, .blk [.int .i64 (F.bX (List.getD l (0 + Int.toNat i) (cod 4).d).1 (List.getD l (0 + Int.toNat i) (cod 4).d).2.1   (List.getD l (0 + Int.toNat i) (cod 4).d).2.2.1 (List.getD l (0 + Int.toNat i) (cod 4).d).2.2.2   (List.getD sp (0 + Int.toNat i) (cod 0).d)), .int .i64 (F.bY (List.getD l (0 + Int.toNat i) (cod 4).d).1 (List.getD l (0 + Int.toNat i) (cod 4).d).2.1   (List.getD l (0 + Int.toNat i) (cod 4).d).2.2.1 (List.getD l (0 + Int.toNat i) (cod 4).d).2.2.2   (List.getD sp (0 + Int.toNat i) (cod 0).d)), .int .i64 ((List.getD l (0 + Int.toNat i) (cod 4).d).2.2.1), .int .i64 ((List.getD l (0 + Int.toNat i) (cod 4).d).2.2.2)] 66, .blk [.int .i64 ((List.getD l (0 + Int.toNat k) (cod 4).d).1), .int .i64 ((List.getD l (0 + Int.toNat k) (cod 4).d).2.1), .int .i64 ((List.getD l (0 + Int.toNat k) (cod 4).d).2.2.1), .int .i64 ((List.getD l (0 + Int.toNat k) (cod 4).d).2.2.2)] 63, .blk [.int .i64 (F.bX (List.getD l (0 + Int.toNat k) (cod 4).d).1 (List.getD l (0 + Int.toNat k) (cod 4).d).2.1   (List.getD l (0 + Int.toNat k) (cod 4).d).2.2.1 (List.getD l (0 + Int.toNat k) (cod 4).d).2.2.2   (List.getD sp (0 + Int.toNat k) (cod 0).d)), .int .i64 (F.bY (List.getD l (0 + Int.toNat k) (cod 4).d).1 (List.getD l (0 + Int.toNat k) (cod 4).d).2.1   (List.getD l (0 + Int.toNat k) (cod 4).d).2.2.1 (List.getD l (0 + Int.toNat k) (cod 4).d).2.2.2   (List.getD sp (0 + Int.toNat k) (cod 0).d)), .int .i64 ((List.getD l (0 + Int.toNat k) (cod 4).d).2.2.1), .int .i64 ((List.getD l (0 + Int.toNat k) (cod 4).d).2.2.2)] 66]⟩)))))))))) (
 .need (i64ok (i + 1)) (
 .ret (.cut (cutAt Try.f36 2) ⟨tmG 76 [(0, .c (.slc 0 0 (List.length l) l_t)), (0, .c (.slc 1 0 (List.length sp) sp_t)), (13, .c (.slc 0 0 (List.length l) l_t)), (0, .c (.int .i64 (Int.ofNat (List.length l)))), (0, .c (.int .i64 (i + 1)))], [.inp 4 l, .inp 0 sp]⟩))) := by kernel_rfl


noncomputable def st_fit_18 (l : List (Int × Int × Int × Int)) (l_t : Bool) (sp : List Int) (sp_t : Bool) (i k row : Int) : St cod := ⟨tmG 43 [(0, .c (.slc 0 0 (List.length l) l_t)), (0, .c (.slc 1 0 (List.length sp) sp_t)), (5, .c (.ptr 3 0 0)), (4, .c (.ptr 5 0 0)), (0, .c (.int .i64 row)), (1, .c (.slc 0 0 (List.length l) l_t)), (0, .c (.int .i64 (Int.ofNat (List.length l)))), (0, .c (.int .i64 i)), (30, .c (.slc 0 0 (Int.toNat i) false)), (0, .c (.int .i64 (Int.ofNat (Int.toNat i)))), (0, .c (.int .i64 k))], [.inp 4 l, .inp 0 sp, .blk [.int .i64 ((List.getD l (0 + Int.toNat i) (cod 4).d).1), .int .i64 ((List.getD l (0 + Int.toNat i) (cod 4).d).2.1), .int .i64 ((List.getD l (0 + Int.toNat i) (cod 4).d).2.2.1), .int .i64 ((List.getD l (0 + Int.toNat i) (cod 4).d).2.2.2)] 63, .blk [.int .i64 (F.bX (List.getD l (0 + Int.toNat i) (cod 4).d).1 (List.getD l (0 + Int.toNat i) (cod 4).d).2.1   (List.getD l (0 + Int.toNat i) (cod 4).d).2.2.1 (List.getD l (0 + Int.toNat i) (cod 4).d).2.2.2   (List.getD sp (0 + Int.toNat i) (cod 0).d)), .int .i64 (F.bY (List.getD l (0 + Int.toNat i) (cod 4).d).1 (List.getD l (0 + Int.toNat i) (cod 4).d).2.1   (List.getD l (0 + Int.toNat i) (cod 4).d).2.2.1 (List.getD l (0 + Int.toNat i) (cod 4).d).2.2.2   (List.getD sp (0 + Int.toNat i) (cod 0).d)), .int .i64 ((List.getD l (0 + Int.toNat i) (cod 4).d).2.2.1), .int .i64 ((List.getD l (0 + Int.toNat i) (cod 4).d).2.2.2)] 66, .blk [.int .i64 ((List.getD l (0 + Int.toNat k) (cod 4).d).1), .int .i64 ((List.getD l (0 + Int.toNat k) (cod 4).d).2.1), .int .i64 ((List.getD l (0 + Int.toNat k) (cod 4).d).2.2.1), .int .i64 ((List.getD l (0 + Int.toNat k) (cod 4).d).2.2.2)] 63, .blk [.int .i64 (F.bX (List.getD l (0 + Int.toNat k) (cod 4).d).1 (List.getD l (0 + Int.toNat k) (cod 4).d).2.1   (List.getD l (0 + Int.toNat k) (cod 4).d).2.2.1 (List.getD l (0 + Int.toNat k) (cod 4).d).2.2.2   (List.getD sp (0 + Int.toNat k) (cod 0).d)), .int .i64 (F.bY (List.getD l (0 + Int.toNat k) (cod 4).d).1 (List.getD l (0 + Int.toNat k) (cod 4).d).2.1   (List.getD l (0 + Int.toNat k) (cod 4).d).2.2.1 (List.getD l (0 + Int.toNat k) (cod 4).d).2.2.2   (List.getD sp (0 + Int.toNat k) (cod 0).d)), .int .i64 ((List.getD l (0 + Int.toNat k) (cod 4).d).2.2.1), .int .i64 ((List.getD l (0 + Int.toNat k) (cod 4).d).2.2.2)] 66]⟩


theorem fit_t18 (l : List (Int × Int × Int × Int)) (l_t : Bool) (sp : List Int) (sp_t : Bool) (i k row : Int) : symF C_equal cuts_fit Try.f36.results.toList 2 400 (cutAt Try.f36 18) (st_fit_18 l l_t sp sp_t i k row) =
.need (i64ok   (F.bY (List.getD l (0 + Int.toNat i) (cod 4).d).1 (List.getD l (0 + Int.toNat i) (cod 4).d).2.1       (List.getD l (0 + Int.toNat i) (cod 4).d).2.2.1 (List.getD l (0 + Int.toNat i) (cod 4).d).2.2.2       (List.getD sp (0 + Int.toNat i) (cod 0).d) +     (List.getD l (0 + Int.toNat i) (cod 4).d).2.2.2)) (
 cond (decide   (row <     F.bY (List.getD l (0 + Int.toNat i) (cod 4).d).1 (List.getD l (0 + Int.toNat i) (cod 4).d).2.1         (List.getD l (0 + Int.toNat i) (cod 4).d).2.2.1 (List.getD l (0 + Int.toNat i) (cod 4).d).2.2.2         (List.getD sp (0 + Int.toNat i) (cod 0).d) +       (List.getD l (0 + Int.toNat i) (cod 4).d).2.2.2)) (
 .ret (.cut (cutAt Try.f36 21) ⟨tmG 43 [(0, .c (.slc 0 0 (List.length l) l_t)), (0, .c (.slc 1 0 (List.length sp) sp_t)), (5, .c (.ptr 3 0 0)), (4, .c (.ptr 5 0 0)), (0, .c (.int .i64 row)), (0, .c (.int .i64 (F.bX (List.getD l (0 + Int.toNat i) (cod 4).d).1 (List.getD l (0 + Int.toNat i) (cod 4).d).2.1   (List.getD l (0 + Int.toNat i) (cod 4).d).2.2.1 (List.getD l (0 + Int.toNat i) (cod 4).d).2.2.2   (List.getD sp (0 + Int.toNat i) (cod 0).d)))), (0, .c (.slc 0 0 (List.length l) l_t)), (0, .c (.int .i64 (Int.ofNat (List.length l)))), (0, .c (.int .i64 i)), (30, .c (.slc 0 0 (Int.toNat i) false)), (0, .c (.int .i64 (Int.ofNat (Int.toNat i)))), (0, .c (.int .i64 k))], [.inp 4 l, .inp 0 sp, .blk [.int .i64 ((List.getD l (0 + Int.toNat i) (cod 4).d).1), .int .i64 ((List.getD l (0 + Int.toNat i) (cod 4).d).2.1), .int .i64 ((List.getD l (0 + Int.toNat i) (cod 4).d).2.2.1), .int .i64 ((List.getD l (0 + Int.toNat i) (cod 4).d).2.2.2)] 63, .blk [.int .i64 (F.bX (List.getD l (0 + Int.toNat i) (cod 4).d).1 (List.getD l (0 + Int.toNat i) (cod 4).d).2.1   (List.getD l (0 + Int.toNat i) (cod 4).d).2.2.1 (List.getD l (0 + Int.toNat i) (cod 4).d).2.2.2   (List.getD sp (0 + Int.toNat i) (cod 0).d)), .int .i64 (F.bY (List.getD l (0 + Int.toNat i) (cod 4).d).1 (List.getD l (0 + Int.toNat i) (cod 4).d).2.1   (List.getD l (0 + Int.toNat i) (cod 4).d).2.2.1 (List.getD l (0 + Int.toNat i) (cod 4).d).2.2.2   (List.getD sp (0 + Int.toNat i) (cod 0).d)), .int .i64 ((List.getD l (0 + Int.toNat i) (cod 4).d).2.2.1), .int .i64 ((List.getD l (0 + Int.toNat i) (cod 4).d).2.2.2)] 66, .blk [.int .i64 ((List.getD l (0 + Int.toNat k) (cod 4).d).1), .int .i64 ((List.getD l (0 + Int.toNat k) (cod 4).d).2.1), .int .i64 ((List.getD l (0 + Int.toNat k) (cod 4).d).2.2.1), .int .i64 ((List.getD l (0 + Int.toNat k) (cod 4).d).2.2.2)] 63, .blk [.int .i64 (F.bX (List.getD l (0 + Int.toNat k) (cod 4).d).1 (List.getD l (0 + Int.toNat k) (cod 4).d).2.1   (List.getD l (0 + Int.toNat k) (cod 4).d).2.2.1 (List.getD l (0 + Int.toNat k) (cod 4).d).2.2.2   (List.getD sp (0 + Int.toNat k) (cod 0).d)), .int .i64 (F.bY (List.getD l (0 + Int.toNat k) (cod 4).d).1 (List.getD l (0 + Int.toNat k) (cod 4).d).2.1   (List.getD l (0 + Int.toNat k) (cod 4).d).2.2.1 (List.getD l (0 + Int.toNat k) (cod 4).d).2.2.2   (List.getD sp (0 + Int.toNat k) (cod 0).d)), .int .i64 ((List.getD l (0 + Int.toNat k) (cod 4).d).2.2.1), .int .i64 ((List.getD l (0 + Int.toNat k) (cod 4).d).2.2.2)] 66]⟩)) (
 .need (i64ok (k + 1)) (
 .ret (.cut (cutAt Try.f36 13) ⟨tmG 43 [(0, .c (.slc 0 0 (List.length l) l_t)), (0, .c (.slc 1 0 (List.length sp) sp_t)), (5, .c (.ptr 3 0 0)), (7, .c (.slc 0 0 (List.length l) l_t)), (0, .c (.int .i64 (Int.ofNat (List.length l)))), (0, .c (.int .i64 i)), (30, .c (.slc 0 0 (Int.toNat i) false)), (0, .c (.int .i64 (Int.ofNat (Int.toNat i)))), (0, .c (.int .i64 (k + 1)))], [.inp 4 l, .inp 0 sp, .blk [.int .i64 ((List.getD l (0 + Int.toNat i) (cod 4).d).1), .int .i64 ((List.getD l (0 + Int.toNat i) (cod 4).d).2.1), .int .i64 ((List.getD l (0 + Int.toNat i) (cod 4).d).2.2.1), .int .i64 ((List.getD l (0 + Int.toNat i) (cod 4).d).2.2.2)] 63, .blk [.int .i64 (F.bX (List.getD l (0 + Int.toNat i) (cod 4).d).1 (List.getD l (0 + Int.toNat i) (cod 4).d).2.1   (List.getD l (0 + Int.toNat i) (cod 4).d).2.2.1 (List.getD l (0 + Int.toNat i) (cod 4).d).2.2.2   (List.getD sp (0 + Int.toNat i) (cod 0).d)), .int .i64 (F.bY (List.getD l (0 + Int.toNat i) (cod 4).d).1 (List.getD l (0 + Int.toNat i) (cod 4).d).2.1   (List.getD l (0 + Int.toNat i) (cod 4).d).2.2.1 (List.getD l (0 + Int.toNat i) (cod 4).d).2.2.2   (List.getD sp (0 + Int.toNat i) (cod 0).d)), .int .i64 ((List.getD l (0 + Int.toNat i) (cod 4).d).2.2.1), .int .i64 ((List.getD l (0 + Int.toNat i) (cod 4).d).2.2.2)] 66]⟩)))) := by kernel_rfl


noncomputable def st_fit_21 (l : List (Int × Int × Int × Int)) (l_t : Bool) (sp : List Int) (sp_t : Bool) (i k row col : Int) : St cod := ⟨tmG 43 [(0, .c (.slc 0 0 (List.length l) l_t)), (0, .c (.slc 1 0 (List.length sp) sp_t)), (5, .c (.ptr 3 0 0)), (4, .c (.ptr 5 0 0)), (0, .c (.int .i64 row)), (0, .c (.int .i64 col)), (0, .c (.slc 0 0 (List.length l) l_t)), (0, .c (.int .i64 (Int.ofNat (List.length l)))), (0, .c (.int .i64 i)), (30, .c (.slc 0 0 (Int.toNat i) false)), (0, .c (.int .i64 (Int.ofNat (Int.toNat i)))), (0, .c (.int .i64 k))], [.inp 4 l, .inp 0 sp, .blk [.int .i64 ((List.getD l (0 + Int.toNat i) (cod 4).d).1), .int .i64 ((List.getD l (0 + Int.toNat i) (cod 4).d).2.1), .int .i64 ((List.getD l (0 + Int.toNat i) (cod 4).d).2.2.1), .int .i64 ((List.getD l (0 + Int.toNat i) (cod 4).d).2.2.2)] 63, .blk [.int .i64 (F.bX (List.getD l (0 + Int.toNat i) (cod 4).d).1 (List.getD l (0 + Int.toNat i) (cod 4).d).2.1   (List.getD l (0 + Int.toNat i) (cod 4).d).2.2.1 (List.getD l (0 + Int.toNat i) (cod 4).d).2.2.2   (List.getD sp (0 + Int.toNat i) (cod 0).d)), .int .i64 (F.bY (List.getD l (0 + Int.toNat i) (cod 4).d).1 (List.getD l (0 + Int.toNat i) (cod 4).d).2.1   (List.getD l (0 + Int.toNat i) (cod 4).d).2.2.1 (List.getD l (0 + Int.toNat i) (cod 4).d).2.2.2   (List.getD sp (0 + Int.toNat i) (cod 0).d)), .int .i64 ((List.getD l (0 + Int.toNat i) (cod 4).d).2.2.1), .int .i64 ((List.getD l (0 + Int.toNat i) (cod 4).d).2.2.2)] 66, .blk [.int .i64 ((List.getD l (0 + Int.toNat k) (cod 4).d).1), .int .i64 ((List.getD l (0 + Int.toNat k) (cod 4).d).2.1), .int .i64 ((List.getD l (0 + Int.toNat k) (cod 4).d).2.2.1), .int .i64 ((List.getD l (0 + Int.toNat k) (cod 4).d).2.2.2)] 63, .blk [.int .i64 (F.bX (List.getD l (0 + Int.toNat k) (cod 4).d).1 (List.getD l (0 + Int.toNat k) (cod 4).d).2.1   (List.getD l (0 + Int.toNat k) (cod 4).d).2.2.1 (List.getD l (0 + Int.toNat k) (cod 4).d).2.2.2   (List.getD sp (0 + Int.toNat k) (cod 0).d)), .int .i64 (F.bY (List.getD l (0 + Int.toNat k) (cod 4).d).1 (List.getD l (0 + Int.toNat k) (cod 4).d).2.1   (List.getD l (0 + Int.toNat k) (cod 4).d).2.2.1 (List.getD l (0 + Int.toNat k) (cod 4).d).2.2.2   (List.getD sp (0 + Int.toNat k) (cod 0).d)), .int .i64 ((List.getD l (0 + Int.toNat k) (cod 4).d).2.2.1), .int .i64 ((List.getD l (0 + Int.toNat k) (cod 4).d).2.2.2)] 66]⟩


theorem fit_t21 (l : List (Int × Int × Int × Int)) (l_t : Bool) (sp : List Int) (sp_t : Bool) (i k row col : Int) : symF C_equal cuts_fit Try.f36.results.toList 2 400 (cutAt Try.f36 21) (st_fit_21 l l_t sp sp_t i k row col) =
.need (i64ok   (F.bX (List.getD l (0 + Int.toNat i) (cod 4).d).1 (List.getD l (0 + Int.toNat i) (cod 4).d).2.1       (List.getD l (0 + Int.toNat i) (cod 4).d).2.2.1 (List.getD l (0 + Int.toNat i) (cod 4).d).2.2.2       (List.getD sp (0 + Int.toNat i) (cod 0).d) +     (List.getD l (0 + Int.toNat i) (cod 4).d).2.2.1)) (
 cond (decide   (col <     F.bX (List.getD l (0 + Int.toNat i) (cod 4).d).1 (List.getD l (0 + Int.toNat i) (cod 4).d).2.1         (List.getD l (0 + Int.toNat i) (cod 4).d).2.2.1 (List.getD l (0 + Int.toNat i) (cod 4).d).2.2.2         (List.getD sp (0 + Int.toNat i) (cod 0).d) +       (List.getD l (0 + Int.toNat i) (cod 4).d).2.2.1)) (
 .need (F.bq   (F.bX (List.getD l (0 + Int.toNat k) (cod 4).d).1 (List.getD l (0 + Int.toNat k) (cod 4).d).2.1       (List.getD l (0 + Int.toNat k) (cod 4).d).2.2.1 (List.getD l (0 + Int.toNat k) (cod 4).d).2.2.2       (List.getD sp (0 + Int.toNat k) (cod 0).d),     F.bY (List.getD l (0 + Int.toNat k) (cod 4).d).1 (List.getD l (0 + Int.toNat k) (cod 4).d).2.1       (List.getD l (0 + Int.toNat k) (cod 4).d).2.2.1 (List.getD l (0 + Int.toNat k) (cod 4).d).2.2.2       (List.getD sp (0 + Int.toNat k) (cod 0).d),     (List.getD l (0 + Int.toNat k) (cod 4).d).2.2.1, (List.getD l (0 + Int.toNat k) (cod 4).d).2.2.2)) (
 cond (F.meet   (F.bX (List.getD l (0 + Int.toNat k) (cod 4).d).1 (List.getD l (0 + Int.toNat k) (cod 4).d).2.1       (List.getD l (0 + Int.toNat k) (cod 4).d).2.2.1 (List.getD l (0 + Int.toNat k) (cod 4).d).2.2.2       (List.getD sp (0 + Int.toNat k) (cod 0).d),     F.bY (List.getD l (0 + Int.toNat k) (cod 4).d).1 (List.getD l (0 + Int.toNat k) (cod 4).d).2.1       (List.getD l (0 + Int.toNat k) (cod 4).d).2.2.1 (List.getD l (0 + Int.toNat k) (cod 4).d).2.2.2       (List.getD sp (0 + Int.toNat k) (cod 0).d),     (List.getD l (0 + Int.toNat k) (cod 4).d).2.2.1, (List.getD l (0 + Int.toNat k) (cod 4).d).2.2.2)   (col, row, 1, 1)) (
  .ret (.fin (.c (.bool false)) [])) (
  .need (i64ok (col + 1)) (
  .ret (.cut (cutAt Try.f36 21) ⟨tmG 43 [(0, .c (.slc 0 0 (List.length l) l_t)), (0, .c (.slc 1 0 (List.length sp) sp_t)), (5, .c (.ptr 3 0 0)), (4, .c (.ptr 5 0 0)), (0, .c (.int .i64 row)), (0, .c (.int .i64 (col + 1))), (0, .c (.slc 0 0 (List.length l) l_t)), (0, .c (.int .i64 (Int.ofNat (List.length l)))), (0, .c (.int .i64 i)), (30, .c (.slc 0 0 (Int.toNat i) false)), (0, .c (.int .i64 (Int.ofNat (Int.toNat i)))), (0, .c (.int .i64 k))], [.inp 4 l, .inp 0 sp, .blk [.int .i64 ((List.getD l (0 + Int.toNat i) (cod 4).d).1), .int .i64 ((List.getD l (0 + Int.toNat i) (cod 4).d).2.1), .int .i64 ((List.getD l (0 + Int.toNat i) (cod 4).d).2.2.1), .int .i64 ((List.getD l (0 + Int.toNat i) (cod 4).d).2.2.2)] 63, .blk [.int .i64 (F.bX (List.getD l (0 + Int.toNat i) (cod 4).d).1 (List.getD l (0 + Int.toNat i) (cod 4).d).2.1   (List.getD l (0 + Int.toNat i) (cod 4).d).2.2.1 (List.getD l (0 + Int.toNat i) (cod 4).d).2.2.2   (List.getD sp (0 + Int.toNat i) (cod 0).d)), .int .i64 (F.bY (List.getD l (0 + Int.toNat i) (cod 4).d).1 (List.getD l (0 + Int.toNat i) (cod 4).d).2.1   (List.getD l (0 + Int.toNat i) (cod 4).d).2.2.1 (List.getD l (0 + Int.toNat i) (cod 4).d).2.2.2   (List.getD sp (0 + Int.toNat i) (cod 0).d)), .int .i64 ((List.getD l (0 + Int.toNat i) (cod 4).d).2.2.1), .int .i64 ((List.getD l (0 + Int.toNat i) (cod 4).d).2.2.2)] 66, .blk [.int .i64 ((List.getD l (0 + Int.toNat k) (cod 4).d).1), .int .i64 ((List.getD l (0 + Int.toNat k) (cod 4).d).2.1), .int .i64 ((List.getD l (0 + Int.toNat k) (cod 4).d).2.2.1), .int .i64 ((List.getD l (0 + Int.toNat k) (cod 4).d).2.2.2)] 63, .blk [.int .i64 (F.bX (List.getD l (0 + Int.toNat k) (cod 4).d).1 (List.getD l (0 + Int.toNat k) (cod 4).d).2.1   (List.getD l (0 + Int.toNat k) (cod 4).d).2.2.1 (List.getD l (0 + Int.toNat k) (cod 4).d).2.2.2   (List.getD sp (0 + Int.toNat k) (cod 0).d)), .int .i64 (F.bY (List.getD l (0 + Int.toNat k) (cod 4).d).1 (List.getD l (0 + Int.toNat k) (cod 4).d).2.1   (List.getD l (0 + Int.toNat k) (cod 4).d).2.2.1 (List.getD l (0 + Int.toNat k) (cod 4).d).2.2.2   (List.getD sp (0 + Int.toNat k) (cod 0).d)), .int .i64 ((List.getD l (0 + Int.toNat k) (cod 4).d).2.2.1), .int .i64 ((List.getD l (0 + Int.toNat k) (cod 4).d).2.2.2)] 66]⟩))))) (
 .need (i64ok (row + 1)) (
 .ret (.cut (cutAt Try.f36 18) ⟨tmG 43 [(0, .c (.slc 0 0 (List.length l) l_t)), (0, .c (.slc 1 0 (List.length sp) sp_t)), (5, .c (.ptr 3 0 0)), (4, .c (.ptr 5 0 0)), (0, .c (.int .i64 (row + 1))), (1, .c (.slc 0 0 (List.length l) l_t)), (0, .c (.int .i64 (Int.ofNat (List.length l)))), (0, .c (.int .i64 i)), (30, .c (.slc 0 0 (Int.toNat i) false)), (0, .c (.int .i64 (Int.ofNat (Int.toNat i)))), (0, .c (.int .i64 k))], [.inp 4 l, .inp 0 sp, .blk [.int .i64 ((List.getD l (0 + Int.toNat i) (cod 4).d).1), .int .i64 ((List.getD l (0 + Int.toNat i) (cod 4).d).2.1), .int .i64 ((List.getD l (0 + Int.toNat i) (cod 4).d).2.2.1), .int .i64 ((List.getD l (0 + Int.toNat i) (cod 4).d).2.2.2)] 63, .blk [.int .i64 (F.bX (List.getD l (0 + Int.toNat i) (cod 4).d).1 (List.getD l (0 + Int.toNat i) (cod 4).d).2.1   (List.getD l (0 + Int.toNat i) (cod 4).d).2.2.1 (List.getD l (0 + Int.toNat i) (cod 4).d).2.2.2   (List.getD sp (0 + Int.toNat i) (cod 0).d)), .int .i64 (F.bY (List.getD l (0 + Int.toNat i) (cod 4).d).1 (List.getD l (0 + Int.toNat i) (cod 4).d).2.1   (List.getD l (0 + Int.toNat i) (cod 4).d).2.2.1 (List.getD l (0 + Int.toNat i) (cod 4).d).2.2.2   (List.getD sp (0 + Int.toNat i) (cod 0).d)), .int .i64 ((List.getD l (0 + Int.toNat i) (cod 4).d).2.2.1), .int .i64 ((List.getD l (0 + Int.toNat i) (cod 4).d).2.2.2)] 66, .blk [.int .i64 ((List.getD l (0 + Int.toNat k) (cod 4).d).1), .int .i64 ((List.getD l (0 + Int.toNat k) (cod 4).d).2.1), .int .i64 ((List.getD l (0 + Int.toNat k) (cod 4).d).2.2.1), .int .i64 ((List.getD l (0 + Int.toNat k) (cod 4).d).2.2.2)] 63, .blk [.int .i64 (F.bX (List.getD l (0 + Int.toNat k) (cod 4).d).1 (List.getD l (0 + Int.toNat k) (cod 4).d).2.1   (List.getD l (0 + Int.toNat k) (cod 4).d).2.2.1 (List.getD l (0 + Int.toNat k) (cod 4).d).2.2.2   (List.getD sp (0 + Int.toNat k) (cod 0).d)), .int .i64 (F.bY (List.getD l (0 + Int.toNat k) (cod 4).d).1 (List.getD l (0 + Int.toNat k) (cod 4).d).2.1   (List.getD l (0 + Int.toNat k) (cod 4).d).2.2.1 (List.getD l (0 + Int.toNat k) (cod 4).d).2.2.2   (List.getD sp (0 + Int.toNat k) (cod 0).d)), .int .i64 ((List.getD l (0 + Int.toNat k) (cod 4).d).2.2.1), .int .i64 ((List.getD l (0 + Int.toNat k) (cod 4).d).2.2.2)] 66]⟩)))) := by kernel_rfl



theorem fit_col (l : List F.Q4) (l_t : Bool) (sp : List Int) (sp_t : Bool) (hl : sp.length = l.length) (h32 : l.length ≤ 32) (hok : F.allok l) (hsp : F.spots sp) (b0 : Base) (hb0 : b0.n = 2) (R : SV) (i k row : Int) (i0 : 0 ≤ i) (i1 : i < l.length) (k0 : 0 ≤ k) (k1 : k < l.length) (r1 : -5000 ≤ row ∧ row ≤ 5000) : ∀ (m : Nat) (col : Int), (F.boxAt l sp i).1 ≤ col → col + m = (F.boxAt l sp i).1 + (F.boxAt l sp i).2.2.1 →
    (F.anyI (F.inC (F.boxAt l sp k) row) m col = true → R = .c (.bool false)) → (F.anyI (F.inC (F.boxAt l sp k) row) m col = false → Sym.Runs Try.prog b0 (cutAt Try.f36 18) (st_fit_18 l l_t sp sp_t i k (row + 1)) (Sym.Ends Try.prog Try.f36 2 R [])) →
    Sym.Runs Try.prog b0 (cutAt Try.f36 21) (st_fit_21 l l_t sp sp_t i k row col) (Sym.Ends Try.prog Try.f36 2 R []) := by
  have ai := F.at4_ok hok i0 i1
  have si := F.at0_ok hsp i0 (by omega)
  have bi : (-2000 ≤ (F.boxAt l sp i).1 ∧ (F.boxAt l sp i).1 ≤ 2000) ∧ (-2000 ≤ (F.boxAt l sp i).2.1 ∧ (F.boxAt l sp i).2.1 ≤ 2000) ∧ (1 ≤ (F.boxAt l sp i).2.2.1 ∧ (F.boxAt l sp i).2.2.1 ≤ 40) ∧ (1 ≤ (F.boxAt l sp i).2.2.2 ∧ (F.boxAt l sp i).2.2.2 ≤ 40) := F.box_bd ai si.1 si.2
  have ak := F.at4_ok hok k0 k1
  have sk := F.at0_ok hsp k0 (by omega)
  have qk : F.bq (F.boxAt l sp k) := F.bq_box ak sk.1 sk.2
  intro m
  induction m with
  | zero =>
    intro col h0 hm hA hB
    refine Runs.go (cfg := C_equal) L_equal_ok mixed cuts_fit 400 hb0 (fit_t21 l l_t sp sp_t i k row col) ?_
    simp only [T.wp, T.wp_cond, Aft, decide_eq_true_eq]
    have u1 : i64ok ((F.boxAt l sp i).1 + (F.boxAt l sp i).2.2.1) := by unfold i64ok; omega
    have u2 : ¬ col < (F.boxAt l sp i).1 + (F.boxAt l sp i).2.2.1 := by omega
    exact ⟨u1, ite_no u2 ⟨by unfold i64ok; omega, hB rfl⟩⟩
  | succ m ih =>
    intro col h0 hm hA hB
    refine Runs.go (cfg := C_equal) L_equal_ok mixed cuts_fit 400 hb0 (fit_t21 l l_t sp sp_t i k row col) ?_
    simp only [T.wp, T.wp_cond, Aft, decide_eq_true_eq]
    have u1 : i64ok ((F.boxAt l sp i).1 + (F.boxAt l sp i).2.2.1) := by unfold i64ok; omega
    have u2 : col < (F.boxAt l sp i).1 + (F.boxAt l sp i).2.2.1 := by omega
    refine ⟨u1, ite_yes u2 ⟨qk, ?_⟩⟩
    rw [F.anyI] at hA hB
    cases hc : F.inC (F.boxAt l sp k) row col
    · rw [hc, Bool.false_or] at hA hB
      refine ite_no (fun e => ?_) ⟨by unfold i64ok; omega, ih (col + 1) (by omega) (by omega) hA hB⟩
      rw [show F.inC (F.boxAt l sp k) row col = true from e] at hc
      cases hc
    · rw [hA (by rw [hc]; rfl)]
      exact ite_yes (show F.inC (F.boxAt l sp k) row col = true from hc) (by first | exact ⟨rfl, rfl⟩ | exact ⟨rfl, trivial⟩)
theorem fit_row (l : List F.Q4) (l_t : Bool) (sp : List Int) (sp_t : Bool) (hl : sp.length = l.length) (h32 : l.length ≤ 32) (hok : F.allok l) (hsp : F.spots sp) (b0 : Base) (hb0 : b0.n = 2) (R : SV) (i k : Int) (i0 : 0 ≤ i) (i1 : i < l.length) (k0 : 0 ≤ k) (k1 : k < l.length) : ∀ (m : Nat) (row : Int), (F.boxAt l sp i).2.1 ≤ row → row + m = (F.boxAt l sp i).2.1 + (F.boxAt l sp i).2.2.2 →
    (F.anyI (fun row => F.anyI (F.inC (F.boxAt l sp k) row) (F.boxAt l sp i).2.2.1.toNat (F.boxAt l sp i).1) m row = true → R = .c (.bool false)) → (F.anyI (fun row => F.anyI (F.inC (F.boxAt l sp k) row) (F.boxAt l sp i).2.2.1.toNat (F.boxAt l sp i).1) m row = false → Sym.Runs Try.prog b0 (cutAt Try.f36 13) (st_fit_13 l l_t sp sp_t i (k + 1)) (Sym.Ends Try.prog Try.f36 2 R [])) →
    Sym.Runs Try.prog b0 (cutAt Try.f36 18) (st_fit_18 l l_t sp sp_t i k row) (Sym.Ends Try.prog Try.f36 2 R []) := by
  have ai := F.at4_ok hok i0 i1
  have si := F.at0_ok hsp i0 (by omega)
  have bi : (-2000 ≤ (F.boxAt l sp i).1 ∧ (F.boxAt l sp i).1 ≤ 2000) ∧ (-2000 ≤ (F.boxAt l sp i).2.1 ∧ (F.boxAt l sp i).2.1 ≤ 2000) ∧ (1 ≤ (F.boxAt l sp i).2.2.1 ∧ (F.boxAt l sp i).2.2.1 ≤ 40) ∧ (1 ≤ (F.boxAt l sp i).2.2.2 ∧ (F.boxAt l sp i).2.2.2 ≤ 40) := F.box_bd ai si.1 si.2
  intro m
  induction m with
  | zero =>
    intro row h0 hm hA hB
    refine Runs.go (cfg := C_equal) L_equal_ok mixed cuts_fit 400 hb0 (fit_t18 l l_t sp sp_t i k row) ?_
    simp only [T.wp, T.wp_cond, Aft, decide_eq_true_eq]
    have u1 : i64ok ((F.boxAt l sp i).2.1 + (F.boxAt l sp i).2.2.2) := by unfold i64ok; omega
    have u2 : ¬ row < (F.boxAt l sp i).2.1 + (F.boxAt l sp i).2.2.2 := by omega
    exact ⟨u1, ite_no u2 ⟨by unfold i64ok; omega, hB rfl⟩⟩
  | succ m ih =>
    intro row h0 hm hA hB
    have nx := fun a b => ih (row + 1) (by omega) (by omega) a b
    refine Runs.go (cfg := C_equal) L_equal_ok mixed cuts_fit 400 hb0 (fit_t18 l l_t sp sp_t i k row) ?_
    simp only [T.wp, T.wp_cond, Aft, decide_eq_true_eq]
    have u1 : i64ok ((F.boxAt l sp i).2.1 + (F.boxAt l sp i).2.2.2) := by unfold i64ok; omega
    have u2 : row < (F.boxAt l sp i).2.1 + (F.boxAt l sp i).2.2.2 := by omega
    refine ⟨u1, ite_yes u2 ?_⟩
    rw [F.anyI] at hA hB
    refine fit_col l l_t sp sp_t hl h32 hok hsp b0 hb0 R i k row i0 i1 k0 k1 (by omega) (F.boxAt l sp i).2.2.1.toNat (F.boxAt l sp i).1 (by omega) (by omega) (fun h => hA (by rw [h]; rfl)) (fun h => nx (fun h' => hA (by rw [h, h']; rfl)) (fun h' => hB (by rw [h, h']; rfl)))
theorem fit_k (l : List F.Q4) (l_t : Bool) (sp : List Int) (sp_t : Bool) (hl : sp.length = l.length) (h32 : l.length ≤ 32) (hok : F.allok l) (hsp : F.spots sp) (b0 : Base) (hb0 : b0.n = 2) (R : SV) (i : Int) (i0 : 0 ≤ i) (i1 : i < l.length) : ∀ (m : Nat) (k : Int), 0 ≤ k → k + m = i →
    (F.anyI (fun k => F.meet (F.boxAt l sp i) (F.boxAt l sp k)) m k = true → R = .c (.bool false)) → (F.anyI (fun k => F.meet (F.boxAt l sp i) (F.boxAt l sp k)) m k = false → Sym.Runs Try.prog b0 (cutAt Try.f36 2) (st_fit_2 l l_t sp sp_t (i + 1)) (Sym.Ends Try.prog Try.f36 2 R [])) →
    Sym.Runs Try.prog b0 (cutAt Try.f36 13) (st_fit_13 l l_t sp sp_t i k) (Sym.Ends Try.prog Try.f36 2 R []) := by
  have ai := F.at4_ok hok i0 i1
  have si := F.at0_ok hsp i0 (by omega)
  have bi : (-2000 ≤ (F.boxAt l sp i).1 ∧ (F.boxAt l sp i).1 ≤ 2000) ∧ (-2000 ≤ (F.boxAt l sp i).2.1 ∧ (F.boxAt l sp i).2.1 ≤ 2000) ∧ (1 ≤ (F.boxAt l sp i).2.2.1 ∧ (F.boxAt l sp i).2.2.1 ≤ 40) ∧ (1 ≤ (F.boxAt l sp i).2.2.2 ∧ (F.boxAt l sp i).2.2.2 ≤ 40) := F.box_bd ai si.1 si.2
  have ei : Int.ofNat (Int.toNat i) = i := by rw [Int.ofNat_eq_natCast]; omega
  intro m
  induction m with
  | zero =>
    intro k h0 hm hA hB
    refine Runs.go (cfg := C_equal) L_equal_ok mixed cuts_fit 400 hb0 (fit_t13 l l_t sp sp_t i k) ?_
    simp only [T.wp, T.wp_cond, Aft, decide_eq_true_eq]
    exact ite_no (by rw [ei]; omega) ⟨by unfold i64ok; omega, hB rfl⟩
  | succ m ih =>
    intro k h0 hm hA hB
    have nx := fun a b => ih (k + 1) (by omega) (by omega) a b
    have k1 : k < l.length := by omega
    have ak := F.at4_ok hok h0 k1
    have sk := F.at0_ok hsp h0 (by omega)
    have bk : (-2000 ≤ (F.boxAt l sp k).1 ∧ (F.boxAt l sp k).1 ≤ 2000) ∧ (-2000 ≤ (F.boxAt l sp k).2.1 ∧ (F.boxAt l sp k).2.1 ≤ 2000) ∧ (1 ≤ (F.boxAt l sp k).2.2.1 ∧ (F.boxAt l sp k).2.2.1 ≤ 40) ∧ (1 ≤ (F.boxAt l sp k).2.2.2 ∧ (F.boxAt l sp k).2.2.2 ≤ 40) := F.box_bd ak sk.1 sk.2
    have lk := F.lab_of ak sk.1 sk.2
    refine Runs.go (cfg := C_equal) L_equal_ok mixed cuts_fit 400 hb0 (fit_t13 l l_t sp sp_t i k) ?_
    simp only [T.wp, T.wp_cond, Aft, decide_eq_true_eq]
    have v1 : k < Int.ofNat (Int.toNat i) := by rw [ei]; omega
    have v2 : k < Int.ofNat (List.length sp) := by rw [Int.ofNat_eq_natCast]; omega
    have v3 : 0 + Int.toNat k < List.length sp := by omega
    refine ite_yes v1 ⟨⟨h0, v1⟩, by omega, ⟨h0, v2⟩, v3, ite_no (fun e => ?_) ⟨⟨h0, v2⟩, v3, lk, ?_⟩⟩
    · exact absurd sk.1 (Int.not_le.mpr e)
    rw [F.anyI] at hA hB
    have hw : ((F.boxAt l sp i).2.2.2.toNat : Int) = (F.boxAt l sp i).2.2.2 := by omega
    have ec := F.cells_meet (b := F.boxAt l sp i) (c := F.boxAt l sp k) ⟨bi.2.2.1.1, bi.2.2.2.1⟩ ⟨bk.2.2.1.1, bk.2.2.2.1⟩
    refine fit_row l l_t sp sp_t hl h32 hok hsp b0 hb0 R i k i0 i1 h0 k1 (F.boxAt l sp i).2.2.2.toNat (F.boxAt l sp i).2.1 (Int.le_refl _) (by rw [hw]) (fun h => hA ?_) (fun h => nx (fun h' => hA ?_) (fun h' => hB ?_))
    · rw [← ec, h]; rfl
    · rw [h']; exact Bool.or_true _
    · rw [← ec, h, h']; rfl
theorem fit_j (l : List F.Q4) (l_t : Bool) (sp : List Int) (sp_t : Bool) (hl : sp.length = l.length) (h32 : l.length ≤ 32) (hok : F.allok l) (hsp : F.spots sp) (b0 : Base) (hb0 : b0.n = 2) (R : SV) (i : Int) (i0 : 0 ≤ i) (i1 : i < l.length) : ∀ (m : Nat) (j : Int), 0 ≤ j → j + m = l.length →
    (F.anyI (fun j => F.meet (F.boxAt l sp i) (F.pt1 (F.at4 l j))) m j = true → R = .c (.bool false)) → (F.anyI (fun j => F.meet (F.boxAt l sp i) (F.pt1 (F.at4 l j))) m j = false → Sym.Runs Try.prog b0 (cutAt Try.f36 13) (st_fit_13 l l_t sp sp_t i 0) (Sym.Ends Try.prog Try.f36 2 R [])) →
    Sym.Runs Try.prog b0 (cutAt Try.f36 7) (st_fit_7 l l_t sp sp_t i j) (Sym.Ends Try.prog Try.f36 2 R []) := by
  have ai := F.at4_ok hok i0 i1
  have si := F.at0_ok hsp i0 (by omega)
  have qi : F.bq (F.boxAt l sp i) := F.bq_box ai si.1 si.2
  intro m
  induction m with
  | zero =>
    intro j h0 hm hA hB
    refine Runs.go (cfg := C_equal) L_equal_ok mixed cuts_fit 400 hb0 (fit_t7 l l_t sp sp_t i j) ?_
    simp only [T.wp, T.wp_cond, Aft, decide_eq_true_eq]
    exact ite_no (by rw [Int.ofNat_eq_natCast]; omega) ⟨⟨i0, by rw [Int.ofNat_eq_natCast]; omega⟩, hB rfl⟩
  | succ m ih =>
    intro j h0 hm hA hB
    have nx := fun a b => ih (j + 1) (by omega) (by omega) a b
    refine Runs.go (cfg := C_equal) L_equal_ok mixed cuts_fit 400 hb0 (fit_t7 l l_t sp sp_t i j) ?_
    simp only [T.wp, T.wp_cond, Aft, decide_eq_true_eq]
    have v1 : j < Int.ofNat (List.length l) := by rw [Int.ofNat_eq_natCast]; omega
    refine ite_yes v1 ⟨⟨h0, v1⟩, by omega, qi, ?_⟩
    rw [F.anyI] at hA hB
    cases hc : F.meet (F.boxAt l sp i) (F.pt1 (F.at4 l j))
    · rw [hc, Bool.false_or] at hA hB
      refine ite_no (fun e => ?_) ⟨by unfold i64ok; omega, nx hA hB⟩
      rw [show F.meet (F.boxAt l sp i) (F.pt1 (F.at4 l j)) = true from e] at hc
      cases hc
    · rw [hA (by rw [hc]; rfl)]
      exact ite_yes (show F.meet (F.boxAt l sp i) (F.pt1 (F.at4 l j)) = true from hc) (by first | exact ⟨rfl, rfl⟩ | exact ⟨rfl, trivial⟩)
theorem fit_i (l : List F.Q4) (l_t : Bool) (sp : List Int) (sp_t : Bool) (hl : sp.length = l.length) (h32 : l.length ≤ 32) (hok : F.allok l) (hsp : F.spots sp) (b0 : Base) (hb0 : b0.n = 2) (R : SV) : ∀ (m : Nat) (i : Int), 0 ≤ i → i + m = l.length → R = .c (.bool (F.fitR l sp m i)) →
    Sym.Runs Try.prog b0 (cutAt Try.f36 2) (st_fit_2 l l_t sp sp_t i) (Sym.Ends Try.prog Try.f36 2 R []) := by
  intro m
  induction m with
  | zero =>
    intro i h0 hm hR
    refine Runs.go (cfg := C_equal) L_equal_ok mixed cuts_fit 400 hb0 (fit_t2 l l_t sp sp_t i) ?_
    simp only [T.wp, T.wp_cond, Aft, decide_eq_true_eq]
    rw [hR]
    exact ite_no (by rw [Int.ofNat_eq_natCast]; omega) (by first | exact ⟨rfl, rfl⟩ | exact ⟨rfl, trivial⟩)
  | succ m ih =>
    intro i i0 hm hR
    have nx := ih (i + 1) (by omega) (by omega)
    have i1 : i < l.length := by omega
    have ai := F.at4_ok hok i0 i1
    have si := F.at0_ok hsp i0 (by omega)
    have li := F.lab_of ai si.1 si.2
    refine Runs.go (cfg := C_equal) L_equal_ok mixed cuts_fit 400 hb0 (fit_t2 l l_t sp sp_t i) ?_
    simp only [T.wp, T.wp_cond, Aft, decide_eq_true_eq]
    have v1 : i < Int.ofNat (List.length l) := by rw [Int.ofNat_eq_natCast]; omega
    have v2 : i < Int.ofNat (List.length sp) := by rw [Int.ofNat_eq_natCast]; omega
    have v3 : 0 + Int.toNat i < List.length sp := by omega
    refine ite_yes v1 ⟨⟨i0, v1⟩, by omega, ⟨i0, v2⟩, v3, ite_no (fun e => ?_) ⟨⟨i0, v2⟩, v3, li, ?_⟩⟩
    · exact absurd si.1 (Int.not_le.mpr e)
    rw [F.fitR] at hR
    refine fit_j l l_t sp sp_t hl h32 hok hsp b0 hb0 R i i0 i1 l.length 0 (Int.le_refl _) (by omega) (fun h => ?_) (fun h => ?_)
    · rw [hR, h]; rfl
    · rw [h] at hR
      refine fit_k l l_t sp sp_t hl h32 hok hsp b0 hb0 R i i0 i1 i.toNat 0 (Int.le_refl _) (by omega) (fun h' => ?_) (fun h' => ?_)
      · rw [hR, h']; rfl
      · rw [h'] at hR
        exact nx hR
theorem fit_run (l : List (Int × Int × Int × Int)) (l_t : Bool) (sp : List Int) (sp_t : Bool) (b0 : Base) (hb : b0.n = 2) (h0 : List.length sp = List.length l) (h1 : List.length l ≤ 32) (h2 : F.allok l) (h3 : F.spots sp) : Sym.Runs Try.prog b0 [.code (codeOf Try.f36)] ⟨argsS Try.f36 [.c (.slc 0 0 (List.length l) l_t), .c (.slc 1 0 (List.length sp) sp_t)], ([.inp 4 l, .inp 0 sp] : Heap cod)⟩ (Sym.Ends Try.prog Try.f36 2 (.c (.bool (F.fitL l sp))) []) := by
  refine Runs.go (cfg := C_equal) L_equal_ok mixed cuts_fit 400 hb (fit_t0 l l_t sp sp_t) ?_
  exact fit_i l l_t sp sp_t h0 h1 h2 h3 b0 hb _ l.length 0 (Int.le_refl _) (by omega) rfl



noncomputable def s_fit : Summ cod := fun args H => match args, H with
  | [.c (.slc 0 l_i l_n l_t), .c (.slc 1 sp_i sp_n sp_t)], [o0, o1] => (match o0.asInp 4 with | some l => (match o1.asInp 0 with | some sp => .need ((l_i = 0 ∧ l_n = List.length l) ∧ (sp_i = 0 ∧ sp_n = List.length sp) ∧ (List.length sp = List.length l) ∧ (List.length l ≤ 32) ∧ (F.allok l) ∧ (F.spots sp)) (.ret (.c (.bool (F.fitL l sp)), [])) | none => .fail) | none => .fail)
  | _, _ => .fail


theorem fit_sound : Sound Try.prog cod 36 s_fit := sound_runs (cfg := C_equal) L_equal_ok mixed Try.func36 rfl rfl _ fun args H r news hg b0 hb => by
  unfold s_fit at hg
  split at hg
  · skip
    split at hg
    · rename_i l hx0
      cases asInp_spec hx0
      split at hg
      · rename_i sp hx1
        cases asInp_spec hx1
        simp only [T.gives, T.wp, Prod.mk.injEq] at hg
        obtain ⟨⟨⟨rfl, rfl⟩, ⟨rfl, rfl⟩, q2, q3, q4, q5⟩, rfl, rfl⟩ := hg
        exact fit_run _ _ _ _ b0 hb (by assumption) (by assumption) (by assumption) (by assumption)
      · exact hg.elim
    · exact hg.elim
  · exact hg.elim

noncomputable def L_fit : Sums cod := (36, .p s_fit) :: L_equal
noncomputable def C_fit : Cfg cod := mkC L_fit

theorem L_fit_ok : Snd Try.prog cod L_fit := .cons fit_sound L_equal_ok


end
end Go.Proofs.Ytffcfbamcaoidaa
