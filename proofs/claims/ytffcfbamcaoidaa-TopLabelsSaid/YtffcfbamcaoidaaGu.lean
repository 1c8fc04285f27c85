/- Part of a claim: lemmas on the way to its theorem; each states its own conditions. -/
import Derived.Test.YtffcfbamcaoidaaGt
namespace Go.Proofs.Ytffcfbamcaoidaa
open Sym Go.RowKit
noncomputable section
set_option maxRecDepth 100000
set_option maxHeartbeats 4000000

namespace F
def boxQ (x : Q4) (k : Int) : Q4 := (bX x.1 x.2.1 x.2.2.1 x.2.2.2 k, bY x.1 x.2.1 x.2.2.1 x.2.2.2 k, x.2.2.1, x.2.2.2)
def go (l : List Q4) (rec : List Int → List Q4 → Option (List Int)) (sp : List Int) (us : List Q4) : Nat → Int → Option (List Int)
  | 0, _ => none
  | m + 1, k =>
    if free l 0 l.length us 0 us.length (boxQ (l.getD sp.length q0) k) then
      (match rec (sp ++ [k]) (us ++ [boxQ (l.getD sp.length q0) k]) with
      | some r => some r
      | none => go l rec sp us m (k + 1))
    else go l rec sp us m (k + 1)
/-- The search: d labels are left; the spots of the labels so far, their boxes. -/
def srch (l : List Q4) : Nat → List Int → List Q4 → Option (List Int)
  | 0, sp, _ => some sp
  | d + 1, sp, us => go l (srch l d) sp us 8 0
def srchB (l : List Q4) (d : Nat) (sp : List Int) (us : List Q4) : Bool := (srch l d sp us).isSome
def srchR (l : List Q4) (d : Nat) (sp : List Int) (us : List Q4) : List Int := (srch l d sp us).getD []
def ok4 (x : Q4) : Prop := (-1000 ≤ x.1 ∧ x.1 ≤ 1000) ∧ (-1000 ≤ x.2.1 ∧ x.2.1 ≤ 1000) ∧ (1 ≤ x.2.2.1 ∧ x.2.2.1 ≤ 40) ∧ (1 ≤ x.2.2.2 ∧ x.2.2.2 ≤ 40)
def allok (l : List Q4) : Prop := ∀ x ∈ l, ok4 x
end F
namespace F
noncomputable def resQ : Option (List Int) → SV × Heap cod
  | some r => (.c (.slc 3 0 (List.length r) false), [.own 0 r 3])
  | none => (.c (.own 3 0), [.own 0 [] 3])
end F
noncomputable def s_ls0 : Summ cod := fun args H => match args, H with
  | [.c (.slc 0 li ln lt), .c (.slc 1 si sn st), .c (.slc 2 ui un ut)], [o0, o1, o2] => (match o0.asInp 4 with
    | some l => (match o1.asInp 0 with
      | some sp => (match o2.asInp 4 with
        | some us => .need (((li = 0 ∧ ln = List.length l) ∧ (si = 0 ∧ sn = List.length sp) ∧ (ui = 0 ∧ un = List.length us)) ∧ sn = ln) (.ret (.c (.slc 1 0 (List.length sp) st), []))
        | none => .fail)
      | none => .fail)
    | none => .fail)
  | _, _ => .fail
noncomputable def s_lsS (d : Nat) : Summ cod := fun args H => match args, H with
  | [.c (.slc 0 li ln lt), .c (.slc 1 si sn st), .c (.slc 2 ui un ut)], [o0, o1, o2] => (match o0.asInp 4 with
    | some l => (match o1.asInp 0 with
      | some sp => (match o2.asInp 4 with
        | some us => .need (((li = 0 ∧ ln = List.length l) ∧ (si = 0 ∧ sn = List.length sp) ∧ (ui = 0 ∧ un = List.length us)) ∧ un = sn ∧ sn + (d + 1) = ln ∧ ln ≤ 6 ∧ F.allok l ∧ F.allB us)
          (.ite (F.srchB l (d + 1) sp us) (.ret (.c (.slc 3 0 (List.length (F.srchR l (d + 1) sp us)) false), [.own 0 (F.srchR l (d + 1) sp us) 3])) (.ret (.c (.own 3 0), [.own 0 [] 3])))
        | none => .fail)
      | none => .fail)
    | none => .fail)
  | _, _ => .fail
noncomputable def C_rec0 : Cfg cod := mkC ((79, .p s_ls0) :: L_lfreeB)
noncomputable def C_rec (d : Nat) : Cfg cod := mkC ((79, .p (s_lsS d)) :: L_lfreeB)
def cuts_lsr : Cuts := [(5, [7, 2, 1, 0, 18], 3)]

theorem lsr_t0 (l : List (Int × Int × Int × Int)) (l_t : Bool) (sp : List Int) (s_t : Bool) (us : List (Int × Int × Int × Int)) (u_t : Bool) : symF C_lfreeB cuts_lsr Try.f79.results.toList 3 400 [.code (codeOf Try.f79)] ⟨argsS Try.f79 [.c (.slc 0 0 (List.length l) l_t), .c (.slc 1 0 (List.length sp) s_t), .c (.slc 2 0 (List.length us) u_t)], ([.inp 4 l, .inp 0 sp, .inp 4 us] : Heap cod)⟩ =
 cond (decide (Int.ofNat (List.length sp) = Int.ofNat (List.length l))) (
 .ret (.fin (.c (.slc 1 0 (List.length sp) s_t)) [])) (
 .ret (.cut (cutAt Try.f79 5) ⟨tmG 32 [(0, .c (.slc 0 0 (List.length l) l_t)), (0, .c (.slc 1 0 (List.length sp) s_t)), (0, .c (.slc 2 0 (List.length us) u_t)), (4, .c (.int .i64 (Int.ofNat (List.length sp)))), (10, .c (.int .i64 0))], [.inp 4 l, .inp 0 sp, .inp 4 us]⟩)) := by kernel_rfl


noncomputable def st_lsr_5 (l : List (Int × Int × Int × Int)) (l_t : Bool) (sp : List Int) (s_t : Bool) (us : List (Int × Int × Int × Int)) (u_t : Bool) (k : Int) : St cod := ⟨tmG 32 [(0, .c (.slc 0 0 (List.length l) l_t)), (0, .c (.slc 1 0 (List.length sp) s_t)), (0, .c (.slc 2 0 (List.length us) u_t)), (4, .c (.int .i64 (Int.ofNat (List.length sp)))), (10, .c (.int .i64 k))], [.inp 4 l, .inp 0 sp, .inp 4 us]⟩


theorem lsr_t5z (l : List (Int × Int × Int × Int)) (l_t : Bool) (sp : List Int) (s_t : Bool) (us : List (Int × Int × Int × Int)) (u_t : Bool) (k : Int) : symF C_rec0 cuts_lsr Try.f79.results.toList 3 400 (cutAt Try.f79 5) (st_lsr_5 l l_t sp s_t us u_t k) =
 cond (decide (k < 8)) (
 .need (((0 : Int) ≤ Int.ofNat (List.length sp) ∧ Int.ofNat (List.length sp) < Int.ofNat (List.length l))) (
 .need (0 + Int.toNat (Int.ofNat (List.length sp)) < List.length l) (
 .need (F.lab (List.getD l (0 + Int.toNat (Int.ofNat (List.length sp))) (cod 4).d).1   (List.getD l (0 + Int.toNat (Int.ofNat (List.length sp))) (cod 4).d).2.1   (List.getD l (0 + Int.toNat (Int.ofNat (List.length sp))) (cod 4).d).2.2.1   (List.getD l (0 + Int.toNat (Int.ofNat (List.length sp))) (cod 4).d).2.2.2 k) (
 .need ((0 + List.length l ≤ List.length l ∧ (0 + List.length us ≤ List.length us ∧ (List.length l ≤ 1000000 ∧ (List.length us ≤ 1000000 ∧ (F.bq   (F.bX (List.getD l (0 + Int.toNat (Int.ofNat (List.length sp))) (cod 4).d).1       (List.getD l (0 + Int.toNat (Int.ofNat (List.length sp))) (cod 4).d).2.1       (List.getD l (0 + Int.toNat (Int.ofNat (List.length sp))) (cod 4).d).2.2.1       (List.getD l (0 + Int.toNat (Int.ofNat (List.length sp))) (cod 4).d).2.2.2 k,     F.bY (List.getD l (0 + Int.toNat (Int.ofNat (List.length sp))) (cod 4).d).1       (List.getD l (0 + Int.toNat (Int.ofNat (List.length sp))) (cod 4).d).2.1       (List.getD l (0 + Int.toNat (Int.ofNat (List.length sp))) (cod 4).d).2.2.1       (List.getD l (0 + Int.toNat (Int.ofNat (List.length sp))) (cod 4).d).2.2.2 k,     (List.getD l (0 + Int.toNat (Int.ofNat (List.length sp))) (cod 4).d).2.2.1,     (List.getD l (0 + Int.toNat (Int.ofNat (List.length sp))) (cod 4).d).2.2.2) ∧ (F.allB l ∧ F.allB us))))))) (
 cond (F.free l 0 (List.length l) us 0 (List.length us)   (F.bX (List.getD l (0 + Int.toNat (Int.ofNat (List.length sp))) (cod 4).d).1       (List.getD l (0 + Int.toNat (Int.ofNat (List.length sp))) (cod 4).d).2.1       (List.getD l (0 + Int.toNat (Int.ofNat (List.length sp))) (cod 4).d).2.2.1       (List.getD l (0 + Int.toNat (Int.ofNat (List.length sp))) (cod 4).d).2.2.2 k,     F.bY (List.getD l (0 + Int.toNat (Int.ofNat (List.length sp))) (cod 4).d).1       (List.getD l (0 + Int.toNat (Int.ofNat (List.length sp))) (cod 4).d).2.1       (List.getD l (0 + Int.toNat (Int.ofNat (List.length sp))) (cod 4).d).2.2.1       (List.getD l (0 + Int.toNat (Int.ofNat (List.length sp))) (cod 4).d).2.2.2 k,     (List.getD l (0 + Int.toNat (Int.ofNat (List.length sp))) (cod 4).d).2.2.1,     (List.getD l (0 + Int.toNat (Int.ofNat (List.length sp))) (cod 4).d).2.2.2)) (
  .need (((0 : Int) ≤ Int.ofNat (List.length sp) ∧ (Int.ofNat (List.length sp) ≤ Int.ofNat (List.length sp) ∧ Int.ofNat (List.length sp) = Int.ofNat (List.length sp)))) (
  .need (1 = 1) (
  .need (List.length (List.take (Int.toNat (Int.ofNat (List.length sp))) (List.drop 0 sp)) =   Int.toNat (Int.ofNat (List.length sp))) (
  .need (((0 : Nat) < 1 ∧ Int.toNat (Int.ofNat (List.length sp)) + 1 ≤ 1000000)) (
  .need (((0 : Int) ≤ Int.ofNat (List.length sp) ∧ (Int.ofNat (List.length sp) ≤ Int.ofNat (List.length us) ∧ Int.ofNat (List.length sp) = Int.ofNat (List.length sp)))) (
  .need (1 = 1) (
  .need (List.length (List.take (Int.toNat (Int.ofNat (List.length sp))) (List.drop 0 us)) =   Int.toNat (Int.ofNat (List.length sp))) (
  .need (((0 : Nat) < 1 ∧ Int.toNat (Int.ofNat (List.length sp)) + 1 ≤ 1000000)) (
  .need ((((0 = 0 ∧ List.length l = List.length l) ∧ ((0 = 0 ∧ Int.toNat (Int.ofNat (List.length sp)) + 1 =   List.length (List.take (Int.toNat (Int.ofNat (List.length sp))) (List.drop 0 sp) ++ [k])) ∧ (0 = 0 ∧ Int.toNat (Int.ofNat (List.length sp)) + 1 =   List.length     (List.take (Int.toNat (Int.ofNat (List.length sp))) (List.drop 0 us) ++       [(F.bX (List.getD l (0 + Int.toNat (Int.ofNat (List.length sp))) (cod 4).d).1             (List.getD l (0 + Int.toNat (Int.ofNat (List.length sp))) (cod 4).d).2.1             (List.getD l (0 + Int.toNat (Int.ofNat (List.length sp))) (cod 4).d).2.2.1             (List.getD l (0 + Int.toNat (Int.ofNat (List.length sp))) (cod 4).d).2.2.2 k,           F.bY (List.getD l (0 + Int.toNat (Int.ofNat (List.length sp))) (cod 4).d).1             (List.getD l (0 + Int.toNat (Int.ofNat (List.length sp))) (cod 4).d).2.1             (List.getD l (0 + Int.toNat (Int.ofNat (List.length sp))) (cod 4).d).2.2.1             (List.getD l (0 + Int.toNat (Int.ofNat (List.length sp))) (cod 4).d).2.2.2 k,           (List.getD l (0 + Int.toNat (Int.ofNat (List.length sp))) (cod 4).d).2.2.1,           (List.getD l (0 + Int.toNat (Int.ofNat (List.length sp))) (cod 4).d).2.2.2)])))) ∧ Int.toNat (Int.ofNat (List.length sp)) + 1 = List.length l)) (
  .need ((0 : Nat) < List.length (List.take (Int.toNat (Int.ofNat (List.length sp))) (List.drop 0 sp) ++ [k])) (
  .ret (.fin (.c (.slc 3 0 (List.length (List.take (Int.toNat (Int.ofNat (List.length sp))) (List.drop 0 sp) ++ [k])) false)) [.own 0 ((List.take (Int.toNat (Int.ofNat (List.length sp))) (List.drop 0 sp)) ++ [k]) 3])))))))))))) (
  .need (i64ok (k + 1)) (
  .ret (.cut (cutAt Try.f79 5) ⟨tmG 32 [(0, .c (.slc 0 0 (List.length l) l_t)), (0, .c (.slc 1 0 (List.length sp) s_t)), (0, .c (.slc 2 0 (List.length us) u_t)), (4, .c (.int .i64 (Int.ofNat (List.length sp)))), (10, .c (.int .i64 (k + 1)))], [.inp 4 l, .inp 0 sp, .inp 4 us]⟩)))))))) (
 .ret (.fin (.c (.own 3 0)) [.own 0 [] 3])) := by kernel_rfl


theorem lsr_t5s (d : Nat) (l : List (Int × Int × Int × Int)) (l_t : Bool) (sp : List Int) (s_t : Bool) (us : List (Int × Int × Int × Int)) (u_t : Bool) (k : Int) : symF (C_rec d) cuts_lsr Try.f79.results.toList 3 400 (cutAt Try.f79 5) (st_lsr_5 l l_t sp s_t us u_t k) =
 cond (decide (k < 8)) (
 .need (((0 : Int) ≤ Int.ofNat (List.length sp) ∧ Int.ofNat (List.length sp) < Int.ofNat (List.length l))) (
 .need (0 + Int.toNat (Int.ofNat (List.length sp)) < List.length l) (
 .need (F.lab (List.getD l (0 + Int.toNat (Int.ofNat (List.length sp))) (cod 4).d).1   (List.getD l (0 + Int.toNat (Int.ofNat (List.length sp))) (cod 4).d).2.1   (List.getD l (0 + Int.toNat (Int.ofNat (List.length sp))) (cod 4).d).2.2.1   (List.getD l (0 + Int.toNat (Int.ofNat (List.length sp))) (cod 4).d).2.2.2 k) (
 .need ((0 + List.length l ≤ List.length l ∧ (0 + List.length us ≤ List.length us ∧ (List.length l ≤ 1000000 ∧ (List.length us ≤ 1000000 ∧ (F.bq   (F.bX (List.getD l (0 + Int.toNat (Int.ofNat (List.length sp))) (cod 4).d).1       (List.getD l (0 + Int.toNat (Int.ofNat (List.length sp))) (cod 4).d).2.1       (List.getD l (0 + Int.toNat (Int.ofNat (List.length sp))) (cod 4).d).2.2.1       (List.getD l (0 + Int.toNat (Int.ofNat (List.length sp))) (cod 4).d).2.2.2 k,     F.bY (List.getD l (0 + Int.toNat (Int.ofNat (List.length sp))) (cod 4).d).1       (List.getD l (0 + Int.toNat (Int.ofNat (List.length sp))) (cod 4).d).2.1       (List.getD l (0 + Int.toNat (Int.ofNat (List.length sp))) (cod 4).d).2.2.1       (List.getD l (0 + Int.toNat (Int.ofNat (List.length sp))) (cod 4).d).2.2.2 k,     (List.getD l (0 + Int.toNat (Int.ofNat (List.length sp))) (cod 4).d).2.2.1,     (List.getD l (0 + Int.toNat (Int.ofNat (List.length sp))) (cod 4).d).2.2.2) ∧ (F.allB l ∧ F.allB us))))))) (
 cond (F.free l 0 (List.length l) us 0 (List.length us)   (F.bX (List.getD l (0 + Int.toNat (Int.ofNat (List.length sp))) (cod 4).d).1       (List.getD l (0 + Int.toNat (Int.ofNat (List.length sp))) (cod 4).d).2.1       (List.getD l (0 + Int.toNat (Int.ofNat (List.length sp))) (cod 4).d).2.2.1       (List.getD l (0 + Int.toNat (Int.ofNat (List.length sp))) (cod 4).d).2.2.2 k,     F.bY (List.getD l (0 + Int.toNat (Int.ofNat (List.length sp))) (cod 4).d).1       (List.getD l (0 + Int.toNat (Int.ofNat (List.length sp))) (cod 4).d).2.1       (List.getD l (0 + Int.toNat (Int.ofNat (List.length sp))) (cod 4).d).2.2.1       (List.getD l (0 + Int.toNat (Int.ofNat (List.length sp))) (cod 4).d).2.2.2 k,     (List.getD l (0 + Int.toNat (Int.ofNat (List.length sp))) (cod 4).d).2.2.1,     (List.getD l (0 + Int.toNat (Int.ofNat (List.length sp))) (cod 4).d).2.2.2)) (
  .need (((0 : Int) ≤ Int.ofNat (List.length sp) ∧ (Int.ofNat (List.length sp) ≤ Int.ofNat (List.length sp) ∧ Int.ofNat (List.length sp) = Int.ofNat (List.length sp)))) (
  .need (1 = 1) (
  .need (List.length (List.take (Int.toNat (Int.ofNat (List.length sp))) (List.drop 0 sp)) =   Int.toNat (Int.ofNat (List.length sp))) (
  .need (((0 : Nat) < 1 ∧ Int.toNat (Int.ofNat (List.length sp)) + 1 ≤ 1000000)) (
  .need (((0 : Int) ≤ Int.ofNat (List.length sp) ∧ (Int.ofNat (List.length sp) ≤ Int.ofNat (List.length us) ∧ Int.ofNat (List.length sp) = Int.ofNat (List.length sp)))) (
  .need (1 = 1) (
  .need (List.length (List.take (Int.toNat (Int.ofNat (List.length sp))) (List.drop 0 us)) =   Int.toNat (Int.ofNat (List.length sp))) (
  .need (((0 : Nat) < 1 ∧ Int.toNat (Int.ofNat (List.length sp)) + 1 ≤ 1000000)) (
  .need ((((0 = 0 ∧ List.length l = List.length l) ∧ ((0 = 0 ∧ Int.toNat (Int.ofNat (List.length sp)) + 1 =   List.length (List.take (Int.toNat (Int.ofNat (List.length sp))) (List.drop 0 sp) ++ [k])) ∧ (0 = 0 ∧ Int.toNat (Int.ofNat (List.length sp)) + 1 =   List.length     (List.take (Int.toNat (Int.ofNat (List.length sp))) (List.drop 0 us) ++       [(F.bX (List.getD l (0 + Int.toNat (Int.ofNat (List.length sp))) (cod 4).d).1             (List.getD l (0 + Int.toNat (Int.ofNat (List.length sp))) (cod 4).d).2.1             (List.getD l (0 + Int.toNat (Int.ofNat (List.length sp))) (cod 4).d).2.2.1             (List.getD l (0 + Int.toNat (Int.ofNat (List.length sp))) (cod 4).d).2.2.2 k,           F.bY (List.getD l (0 + Int.toNat (Int.ofNat (List.length sp))) (cod 4).d).1             (List.getD l (0 + Int.toNat (Int.ofNat (List.length sp))) (cod 4).d).2.1             (List.getD l (0 + Int.toNat (Int.ofNat (List.length sp))) (cod 4).d).2.2.1             (List.getD l (0 + Int.toNat (Int.ofNat (List.length sp))) (cod 4).d).2.2.2 k,           (List.getD l (0 + Int.toNat (Int.ofNat (List.length sp))) (cod 4).d).2.2.1,           (List.getD l (0 + Int.toNat (Int.ofNat (List.length sp))) (cod 4).d).2.2.2)])))) ∧ (Int.toNat (Int.ofNat (List.length sp)) + 1 = Int.toNat (Int.ofNat (List.length sp)) + 1 ∧ (Int.toNat (Int.ofNat (List.length sp)) + 1 + (d + 1) = List.length l ∧ (List.length l ≤ 6 ∧ (F.allok l ∧ F.allB   (List.take (Int.toNat (Int.ofNat (List.length sp))) (List.drop 0 us) ++     [(F.bX (List.getD l (0 + Int.toNat (Int.ofNat (List.length sp))) (cod 4).d).1           (List.getD l (0 + Int.toNat (Int.ofNat (List.length sp))) (cod 4).d).2.1           (List.getD l (0 + Int.toNat (Int.ofNat (List.length sp))) (cod 4).d).2.2.1           (List.getD l (0 + Int.toNat (Int.ofNat (List.length sp))) (cod 4).d).2.2.2 k,         F.bY (List.getD l (0 + Int.toNat (Int.ofNat (List.length sp))) (cod 4).d).1           (List.getD l (0 + Int.toNat (Int.ofNat (List.length sp))) (cod 4).d).2.1           (List.getD l (0 + Int.toNat (Int.ofNat (List.length sp))) (cod 4).d).2.2.1           (List.getD l (0 + Int.toNat (Int.ofNat (List.length sp))) (cod 4).d).2.2.2 k,         (List.getD l (0 + Int.toNat (Int.ofNat (List.length sp))) (cod 4).d).2.2.1,         (List.getD l (0 + Int.toNat (Int.ofNat (List.length sp))) (cod 4).d).2.2.2)]))))))) (
  .ite (F.srchB l (d + 1) (List.take (Int.toNat (Int.ofNat (List.length sp))) (List.drop 0 sp) ++ [k])   (List.take (Int.toNat (Int.ofNat (List.length sp))) (List.drop 0 us) ++     [(F.bX (List.getD l (0 + Int.toNat (Int.ofNat (List.length sp))) (cod 4).d).1           (List.getD l (0 + Int.toNat (Int.ofNat (List.length sp))) (cod 4).d).2.1           (List.getD l (0 + Int.toNat (Int.ofNat (List.length sp))) (cod 4).d).2.2.1           (List.getD l (0 + Int.toNat (Int.ofNat (List.length sp))) (cod 4).d).2.2.2 k,         F.bY (List.getD l (0 + Int.toNat (Int.ofNat (List.length sp))) (cod 4).d).1           (List.getD l (0 + Int.toNat (Int.ofNat (List.length sp))) (cod 4).d).2.1           (List.getD l (0 + Int.toNat (Int.ofNat (List.length sp))) (cod 4).d).2.2.1           (List.getD l (0 + Int.toNat (Int.ofNat (List.length sp))) (cod 4).d).2.2.2 k,         (List.getD l (0 + Int.toNat (Int.ofNat (List.length sp))) (cod 4).d).2.2.1,         (List.getD l (0 + Int.toNat (Int.ofNat (List.length sp))) (cod 4).d).2.2.2)])) (
   .need ((0 : Nat) < List.length   (F.srchR l (d + 1) (List.take (Int.toNat (Int.ofNat (List.length sp))) (List.drop 0 sp) ++ [k])     (List.take (Int.toNat (Int.ofNat (List.length sp))) (List.drop 0 us) ++       [(F.bX (List.getD l (0 + Int.toNat (Int.ofNat (List.length sp))) (cod 4).d).1             (List.getD l (0 + Int.toNat (Int.ofNat (List.length sp))) (cod 4).d).2.1             (List.getD l (0 + Int.toNat (Int.ofNat (List.length sp))) (cod 4).d).2.2.1             (List.getD l (0 + Int.toNat (Int.ofNat (List.length sp))) (cod 4).d).2.2.2 k,           F.bY (List.getD l (0 + Int.toNat (Int.ofNat (List.length sp))) (cod 4).d).1             (List.getD l (0 + Int.toNat (Int.ofNat (List.length sp))) (cod 4).d).2.1             (List.getD l (0 + Int.toNat (Int.ofNat (List.length sp))) (cod 4).d).2.2.1             (List.getD l (0 + Int.toNat (Int.ofNat (List.length sp))) (cod 4).d).2.2.2 k,           (List.getD l (0 + Int.toNat (Int.ofNat (List.length sp))) (cod 4).d).2.2.1,           (List.getD l (0 + Int.toNat (Int.ofNat (List.length sp))) (cod 4).d).2.2.2)]))) (
   .ret (.fin (.c (.slc 3 0 (List.length   (F.srchR l (d + 1) (List.take (Int.toNat (Int.ofNat (List.length sp))) (List.drop 0 sp) ++ [k])     (List.take (Int.toNat (Int.ofNat (List.length sp))) (List.drop 0 us) ++       [(F.bX (List.getD l (0 + Int.toNat (Int.ofNat (List.length sp))) (cod 4).d).1             (List.getD l (0 + Int.toNat (Int.ofNat (List.length sp))) (cod 4).d).2.1             (List.getD l (0 + Int.toNat (Int.ofNat (List.length sp))) (cod 4).d).2.2.1             (List.getD l (0 + Int.toNat (Int.ofNat (List.length sp))) (cod 4).d).2.2.2 k,           F.bY (List.getD l (0 + Int.toNat (Int.ofNat (List.length sp))) (cod 4).d).1             (List.getD l (0 + Int.toNat (Int.ofNat (List.length sp))) (cod 4).d).2.1             (List.getD l (0 + Int.toNat (Int.ofNat (List.length sp))) (cod 4).d).2.2.1             (List.getD l (0 + Int.toNat (Int.ofNat (List.length sp))) (cod 4).d).2.2.2 k,           (List.getD l (0 + Int.toNat (Int.ofNat (List.length sp))) (cod 4).d).2.2.1,           (List.getD l (0 + Int.toNat (Int.ofNat (List.length sp))) (cod 4).d).2.2.2)]))) false)) [.own 0 (F.srchR l (d + 1) (List.take (Int.toNat (Int.ofNat (List.length sp))) (List.drop 0 sp) ++ [k])   (List.take (Int.toNat (Int.ofNat (List.length sp))) (List.drop 0 us) ++     [(F.bX (List.getD l (0 + Int.toNat (Int.ofNat (List.length sp))) (cod 4).d).1           (List.getD l (0 + Int.toNat (Int.ofNat (List.length sp))) (cod 4).d).2.1           (List.getD l (0 + Int.toNat (Int.ofNat (List.length sp))) (cod 4).d).2.2.1           (List.getD l (0 + Int.toNat (Int.ofNat (List.length sp))) (cod 4).d).2.2.2 k,         F.bY (List.getD l (0 + Int.toNat (Int.ofNat (List.length sp))) (cod 4).d).1           (List.getD l (0 + Int.toNat (Int.ofNat (List.length sp))) (cod 4).d).2.1           (List.getD l (0 + Int.toNat (Int.ofNat (List.length sp))) (cod 4).d).2.2.1           (List.getD l (0 + Int.toNat (Int.ofNat (List.length sp))) (cod 4).d).2.2.2 k,         (List.getD l (0 + Int.toNat (Int.ofNat (List.length sp))) (cod 4).d).2.2.1,         (List.getD l (0 + Int.toNat (Int.ofNat (List.length sp))) (cod 4).d).2.2.2)])) 3]))) (
   .need (True) (
   .need (i64ok (k + 1)) (
   .ret (.cut (cutAt Try.f79 5) ⟨tmG 32 [(0, .c (.slc 0 0 (List.length l) l_t)), (0, .c (.slc 1 0 (List.length sp) s_t)), (0, .c (.slc 2 0 (List.length us) u_t)), (4, .c (.int .i64 (Int.ofNat (List.length sp)))), (10, .c (.int .i64 (k + 1)))], [.inp 4 l, .inp 0 sp, .inp 4 us]⟩)))))))))))))) (
  .need (i64ok (k + 1)) (
  .ret (.cut (cutAt Try.f79 5) ⟨tmG 32 [(0, .c (.slc 0 0 (List.length l) l_t)), (0, .c (.slc 1 0 (List.length sp) s_t)), (0, .c (.slc 2 0 (List.length us) u_t)), (4, .c (.int .i64 (Int.ofNat (List.length sp)))), (10, .c (.int .i64 (k + 1)))], [.inp 4 l, .inp 0 sp, .inp 4 us]⟩)))))))) (
 .ret (.fin (.c (.own 3 0)) [.own 0 [] 3])) := by kernel_rfl



namespace F
theorem ok_get {l : List Q4} (h : allok l) {n : Nat} (hn : n < l.length) : ok4 (l.getD n q0) := h _ (by rw [List.getD, List.getElem?_eq_getElem hn]; exact List.getElem_mem hn)
theorem lab_of {x : Q4} (h : ok4 x) {k : Int} (h0 : 0 ≤ k) (h1 : k < 8) : lab x.1 x.2.1 x.2.2.1 x.2.2.2 k := ⟨h.1, h.2.1, h.2.2.1, h.2.2.2, h0, by omega⟩
theorem bq_box {x : Q4} (h : ok4 x) {k : Int} (h0 : 0 ≤ k) (h1 : k < 8) : bq (boxQ x k) := by
  obtain ⟨x1, x2, x3, x4⟩ := x
  obtain ⟨g1, g2, g3, g4⟩ := h
  simp only at g1 g2 g3 g4
  have u1 := tdiv2 g3
  have u2 := tdiv2 g4
  unfold boxQ bq b4 bX bY
  simp only
  refine ⟨?_, ?_, ?_, ?_⟩
  · split
    · omega
    · split <;> omega
  · split
    · omega
    · split <;> omega
  · omega
  · omega
theorem allB_of {l : List Q4} (h : allok l) : allB l := by
  intro x hx
  obtain ⟨g1, g2, g3, g4⟩ := h x hx
  unfold bq b4
  exact ⟨by omega, by omega, by omega, by omega⟩
theorem allB_snoc {l : List Q4} {b : Q4} (h : allB l) (hb : bq b) : allB (l ++ [b]) := by
  intro x hx
  rcases List.mem_append.mp hx with h1 | h1
  · exact h x h1
  · rw [List.mem_singleton.mp h1]; exact hb
theorem go_len {l : List Q4} {rec : List Int → List Q4 → Option (List Int)} {n : Nat} {sp : List Int} {us : List Q4} (hr : ∀ k u r, rec (sp ++ [k]) u = some r → r.length = n) : ∀ (m : Nat) (k : Int) (r : List Int), go l rec sp us m k = some r → r.length = n
  | 0, _, _, h => by simp [go] at h
  | m + 1, k, r, h => by
    rw [go] at h
    split at h
    · split at h
      · rename_i r' h'
        cases h
        exact hr _ _ _ h'
      · exact go_len hr m _ _ h
    · exact go_len hr m _ _ h
theorem srch_len (l : List Q4) : ∀ (d : Nat) (sp : List Int) (us : List Q4) (r : List Int), srch l d sp us = some r → r.length = sp.length + d
  | 0, sp, us, r, h => by simp only [srch, Option.some.injEq] at h; subst h; rfl
  | d + 1, sp, us, r, h => by
    rw [srch] at h
    refine go_len (n := sp.length + (d + 1)) (fun k u r h => ?_) 8 0 r h
    have := srch_len l d _ _ _ h
    rw [List.length_append] at this
    simp only [List.length_singleton] at this
    omega
end F
theorem ls0_run (l : List F.Q4) (l_t : Bool) (sp : List Int) (s_t : Bool) (us : List F.Q4) (u_t : Bool) (b0 : Base) (hb0 : b0.n = 3) (hn : List.length sp = List.length l) : Sym.Runs Try.prog b0 [.code (codeOf Try.f79)] ⟨argsS Try.f79 [.c (.slc 0 0 (List.length l) l_t), .c (.slc 1 0 (List.length sp) s_t), .c (.slc 2 0 (List.length us) u_t)], ([.inp 4 l, .inp 0 sp, .inp 4 us] : Heap cod)⟩ (Sym.Ends Try.prog Try.f79 3 (.c (.slc 1 0 (List.length sp) s_t)) []) := by
  refine Runs.go (cfg := C_lfreeB) L_lfreeB_ok mixed cuts_lsr 400 hb0 (lsr_t0 l l_t sp s_t us u_t) ?_
  have he : (sp.length : Int) = (l.length : Int) := by omega
  simp only [T.wp, T.wp_cond, Aft, Int.ofNat_eq_natCast, decide_eq_true_eq, and_true, true_and, Nat.zero_add, Bool.not_eq_true', decide_eq_false_iff_not, he, if_true]
theorem ls0_sound : Sound Try.prog cod 79 s_ls0 := sound_runs (cfg := C_lfreeB) L_lfreeB_ok mixed Try.func79 rfl rfl _ fun args H r news hg b0 hb => by
  unfold s_ls0 at hg
  split at hg
  · skip
    split at hg
    · rename_i l hx0
      cases asInp_spec hx0
      split at hg
      · rename_i sp hx1
        cases asInp_spec hx1
        split at hg
        · rename_i us hx2
          cases asInp_spec hx2
          simp only [T.gives, T.wp, Prod.mk.injEq] at hg
          obtain ⟨⟨⟨⟨rfl, rfl⟩, ⟨rfl, rfl⟩, rfl, rfl⟩, hn⟩, rfl, rfl⟩ := hg
          exact ls0_run l _ sp _ us _ b0 hb hn
        · exact hg.elim
      · exact hg.elim
    · exact hg.elim
  · exact hg.elim

theorem lsZ_loop (l : List F.Q4) (l_t : Bool) (sp : List Int) (s_t : Bool) (us : List F.Q4) (u_t : Bool) (b0 : Base) (hb0 : b0.n = 3) (hn : sp.length + (0 + 1) = l.length) (hu : us.length = sp.length) (h6 : l.length ≤ 6) (ha : F.allok l) (hbx : F.allB us) (R : SV) (N : Heap cod) : ∀ (m : Nat) (k : Int), 0 ≤ k → k + m = 8 → (R, N) = F.resQ (F.go l (F.srch l (0)) sp us m k) →
    Sym.Runs Try.prog b0 (cutAt Try.f79 5) (st_lsr_5 l l_t sp s_t us u_t k) (Sym.Ends Try.prog Try.f79 3 R N) := by
  intro m
  induction m with
  | zero =>
    intro k h0 hm hR
    refine Runs.go (cfg := C_rec0) (Snd.cons ls0_sound L_lfreeB_ok) mixed cuts_lsr 400 hb0 (lsr_t5z l l_t sp s_t us u_t k) ?_
    have k1 : ¬ k < 8 := by omega
    simp only [F.go, F.resQ, Prod.mk.injEq] at hR
    obtain ⟨rfl, rfl⟩ := hR
    simp only [T.wp, T.wp_cond, Aft, Int.ofNat_eq_natCast, decide_eq_true_eq, and_true, true_and, Nat.zero_add, Bool.not_eq_true', decide_eq_false_iff_not, k1, if_false]
  | succ m ih =>
    intro k h0 hm hR
    have k1 : k < 8 := by omega
    have k2 : sp.length < l.length := by omega
    have k3 : i64ok (k + 1) := by unfold i64ok; omega
    have nx := ih (k + 1) (by omega) (by omega)
    have hx : F.ok4 (l.getD sp.length F.q0) := F.ok_get ha k2
    have hl := F.lab_of hx h0 k1
    have hq := F.bq_box hx h0 k1
    have hal := F.allB_of ha
    have hd : (cod 4).d = F.q0 := rfl
    have t1 : List.take sp.length sp = sp := List.take_length
    have t2 : List.take sp.length us = us := by rw [← hu]; exact List.take_length
    have ti : Int.toNat ((sp.length : Nat) : Int) = sp.length := Int.toNat_natCast _
    have c1 : (0 : Int) ≤ (sp.length : Int) := Int.natCast_nonneg _
    have c2 : (sp.length : Int) < (l.length : Int) := by omega
    have c3 : l.length ≤ 1000000 := by omega
    have c4 : us.length ≤ 1000000 := by omega
    have c5 : sp.length + 1 ≤ 1000000 := by omega
    have c6 : (sp.length : Int) ≤ (us.length : Int) := by omega
    rw [F.go] at hR
    refine Runs.go (cfg := C_rec0) (Snd.cons ls0_sound L_lfreeB_ok) mixed cuts_lsr 400 hb0 (lsr_t5z l l_t sp s_t us u_t k) ?_
    simp only [T.wp, T.wp_cond, Aft, Int.ofNat_eq_natCast, decide_eq_true_eq, and_true, true_and, Nat.zero_add, Bool.not_eq_true', decide_eq_false_iff_not, hd, ti, List.drop_zero, t1, t2]
    have e1 : (F.bX (l.getD sp.length F.q0).1 (l.getD sp.length F.q0).2.1 (l.getD sp.length F.q0).2.2.1 (l.getD sp.length F.q0).2.2.2 k, F.bY (l.getD sp.length F.q0).1 (l.getD sp.length F.q0).2.1 (l.getD sp.length F.q0).2.2.1 (l.getD sp.length F.q0).2.2.2 k, (l.getD sp.length F.q0).2.2.1, (l.getD sp.length F.q0).2.2.2) = F.boxQ (l.getD sp.length F.q0) k := rfl
    simp only [e1]
    generalize F.boxQ (l.getD sp.length F.q0) k = B at *
    rw [if_pos k1]
    refine ⟨⟨c1, c2⟩, k2, hl, ⟨Nat.le_refl _, Nat.le_refl _, c3, c4, hq, hal, hbx⟩, ?_⟩
    cases hf : F.free l 0 l.length us 0 us.length B
    · rw [hf, if_neg (by simp)] at hR
      simp only [Bool.false_eq_true, if_false]
      exact ⟨k3, nx hR⟩
    · rw [hf, if_pos rfl] at hR
      simp only [if_true]
      refine ⟨⟨c1, Int.le_refl _⟩, ⟨by decide, c5⟩, ⟨c1, c6⟩, hu, ⟨by decide, c5⟩, ?_⟩
      simp only [F.srch, F.resQ, Prod.mk.injEq] at hR
      obtain ⟨rfl, rfl⟩ := hR
      refine ⟨?_, ?_, ?_⟩
      · simp [hu]; omega
      · simp
      · exact ⟨rfl, rfl⟩

theorem lsS_loop (d : Nat) (hd1 : Sound Try.prog cod 79 (s_lsS d)) (l : List F.Q4) (l_t : Bool) (sp : List Int) (s_t : Bool) (us : List F.Q4) (u_t : Bool) (b0 : Base) (hb0 : b0.n = 3) (hn : sp.length + (d + 1 + 1) = l.length) (hu : us.length = sp.length) (h6 : l.length ≤ 6) (ha : F.allok l) (hbx : F.allB us) (R : SV) (N : Heap cod) : ∀ (m : Nat) (k : Int), 0 ≤ k → k + m = 8 → (R, N) = F.resQ (F.go l (F.srch l (d + 1)) sp us m k) →
    Sym.Runs Try.prog b0 (cutAt Try.f79 5) (st_lsr_5 l l_t sp s_t us u_t k) (Sym.Ends Try.prog Try.f79 3 R N) := by
  intro m
  induction m with
  | zero =>
    intro k h0 hm hR
    refine Runs.go (cfg := C_rec d) (Snd.cons hd1 L_lfreeB_ok) mixed cuts_lsr 400 hb0 (lsr_t5s d l l_t sp s_t us u_t k) ?_
    have k1 : ¬ k < 8 := by omega
    simp only [F.go, F.resQ, Prod.mk.injEq] at hR
    obtain ⟨rfl, rfl⟩ := hR
    simp only [T.wp, T.wp_cond, Aft, Int.ofNat_eq_natCast, decide_eq_true_eq, and_true, true_and, Nat.zero_add, Bool.not_eq_true', decide_eq_false_iff_not, k1, if_false]
  | succ m ih =>
    intro k h0 hm hR
    have k1 : k < 8 := by omega
    have k2 : sp.length < l.length := by omega
    have k3 : i64ok (k + 1) := by unfold i64ok; omega
    have nx := ih (k + 1) (by omega) (by omega)
    have hx : F.ok4 (l.getD sp.length F.q0) := F.ok_get ha k2
    have hl := F.lab_of hx h0 k1
    have hq := F.bq_box hx h0 k1
    have hal := F.allB_of ha
    have hd : (cod 4).d = F.q0 := rfl
    have t1 : List.take sp.length sp = sp := List.take_length
    have t2 : List.take sp.length us = us := by rw [← hu]; exact List.take_length
    have ti : Int.toNat ((sp.length : Nat) : Int) = sp.length := Int.toNat_natCast _
    have c1 : (0 : Int) ≤ (sp.length : Int) := Int.natCast_nonneg _
    have c2 : (sp.length : Int) < (l.length : Int) := by omega
    have c3 : l.length ≤ 1000000 := by omega
    have c4 : us.length ≤ 1000000 := by omega
    have c5 : sp.length + 1 ≤ 1000000 := by omega
    have c6 : (sp.length : Int) ≤ (us.length : Int) := by omega
    rw [F.go] at hR
    refine Runs.go (cfg := C_rec d) (Snd.cons hd1 L_lfreeB_ok) mixed cuts_lsr 400 hb0 (lsr_t5s d l l_t sp s_t us u_t k) ?_
    simp only [T.wp, T.wp_cond, Aft, Int.ofNat_eq_natCast, decide_eq_true_eq, and_true, true_and, Nat.zero_add, Bool.not_eq_true', decide_eq_false_iff_not, hd, ti, List.drop_zero, t1, t2]
    have e1 : (F.bX (l.getD sp.length F.q0).1 (l.getD sp.length F.q0).2.1 (l.getD sp.length F.q0).2.2.1 (l.getD sp.length F.q0).2.2.2 k, F.bY (l.getD sp.length F.q0).1 (l.getD sp.length F.q0).2.1 (l.getD sp.length F.q0).2.2.1 (l.getD sp.length F.q0).2.2.2 k, (l.getD sp.length F.q0).2.2.1, (l.getD sp.length F.q0).2.2.2) = F.boxQ (l.getD sp.length F.q0) k := rfl
    simp only [e1]
    generalize F.boxQ (l.getD sp.length F.q0) k = B at *
    rw [if_pos k1]
    refine ⟨⟨c1, c2⟩, k2, hl, ⟨Nat.le_refl _, Nat.le_refl _, c3, c4, hq, hal, hbx⟩, ?_⟩
    cases hf : F.free l 0 l.length us 0 us.length B
    · rw [hf, if_neg (by simp)] at hR
      simp only [Bool.false_eq_true, if_false]
      exact ⟨k3, nx hR⟩
    · rw [hf, if_pos rfl] at hR
      simp only [if_true]
      refine ⟨⟨c1, Int.le_refl _⟩, ⟨by decide, c5⟩, ⟨c1, c6⟩, hu, ⟨by decide, c5⟩, ?_⟩
      refine ⟨?_, ?_⟩
      · refine ⟨?_, ?_, ?_, ?_, ?_⟩
        · simp [hu]
        · omega
        · omega
        · exact ha
        · exact F.allB_snoc hbx hq
      cases hs : F.srch l (d + 1) (sp ++ [k]) (us ++ [B]) with
      | none =>
        rw [hs] at hR
        simp only at hR
        have : F.srchB l (d + 1) (sp ++ [k]) (us ++ [B]) = false := by simp [F.srchB, hs]
        refine ⟨fun h => absurd h (by simp [this]), fun _ => ?_⟩
        exact ⟨k3, nx hR⟩
      | some r =>
        rw [hs] at hR
        simp only [F.resQ, Prod.mk.injEq] at hR
        obtain ⟨rfl, rfl⟩ := hR
        have e2 : F.srchB l (d + 1) (sp ++ [k]) (us ++ [B]) = true := by simp [F.srchB, hs]
        have e3 : F.srchR l (d + 1) (sp ++ [k]) (us ++ [B]) = r := by simp [F.srchR, hs]
        have e4 : r.length = (sp ++ [k]).length + (d + 1) := F.srch_len l (d + 1) _ _ _ hs
        refine ⟨fun _ => ?_, fun h => absurd h (by simp [e2])⟩
        rw [e3]
        exact ⟨by omega, rfl, rfl⟩

theorem F.res_of {l : List F.Q4} {d : Nat} {sp : List Int} {us : List F.Q4} {r : SV} {news : Heap cod} (h1 : F.srchB l d sp us = true → .c (.slc 3 0 (List.length (F.srchR l d sp us)) false) = r ∧ [.own 0 (F.srchR l d sp us) 3] = news) (h2 : F.srchB l d sp us = false → .c (.own 3 0) = r ∧ [.own 0 [] 3] = news) : (r, news) = F.resQ (F.srch l d sp us) := by
  unfold F.srchB F.srchR at h1
  unfold F.srchB at h2
  cases hs : F.srch l d sp us with
  | none =>
    rw [hs] at h2
    obtain ⟨rfl, rfl⟩ := h2 rfl
    rfl
  | some q =>
    rw [hs] at h1
    obtain ⟨rfl, rfl⟩ := h1 rfl
    rfl

theorem lsZ_run (l : List F.Q4) (l_t : Bool) (sp : List Int) (s_t : Bool) (us : List F.Q4) (u_t : Bool) (b0 : Base) (hb0 : b0.n = 3) (hn : sp.length + (0 + 1) = l.length) (hu : us.length = sp.length) (h6 : l.length ≤ 6) (ha : F.allok l) (hbx : F.allB us) (R : SV) (N : Heap cod) (hR : (R, N) = F.resQ (F.srch l (0 + 1) sp us)) : Sym.Runs Try.prog b0 [.code (codeOf Try.f79)] ⟨argsS Try.f79 [.c (.slc 0 0 (List.length l) l_t), .c (.slc 1 0 (List.length sp) s_t), .c (.slc 2 0 (List.length us) u_t)], ([.inp 4 l, .inp 0 sp, .inp 4 us] : Heap cod)⟩ (Sym.Ends Try.prog Try.f79 3 R N) := by
  refine Runs.go (cfg := C_lfreeB) L_lfreeB_ok mixed cuts_lsr 400 hb0 (lsr_t0 l l_t sp s_t us u_t) ?_
  have hne : ¬ (sp.length : Int) = (l.length : Int) := by omega
  simp only [T.wp, T.wp_cond, Aft, Int.ofNat_eq_natCast, decide_eq_true_eq, and_true, true_and, Nat.zero_add, Bool.not_eq_true', decide_eq_false_iff_not, hne, if_false]
  exact lsZ_loop l l_t sp s_t us u_t b0 hb0 hn hu h6 ha hbx R N 8 0 (by omega) (by omega) hR
theorem lsS_run (d : Nat) (hd1 : Sound Try.prog cod 79 (s_lsS d)) (l : List F.Q4) (l_t : Bool) (sp : List Int) (s_t : Bool) (us : List F.Q4) (u_t : Bool) (b0 : Base) (hb0 : b0.n = 3) (hn : sp.length + (d + 1 + 1) = l.length) (hu : us.length = sp.length) (h6 : l.length ≤ 6) (ha : F.allok l) (hbx : F.allB us) (R : SV) (N : Heap cod) (hR : (R, N) = F.resQ (F.srch l ((d + 1) + 1) sp us)) : Sym.Runs Try.prog b0 [.code (codeOf Try.f79)] ⟨argsS Try.f79 [.c (.slc 0 0 (List.length l) l_t), .c (.slc 1 0 (List.length sp) s_t), .c (.slc 2 0 (List.length us) u_t)], ([.inp 4 l, .inp 0 sp, .inp 4 us] : Heap cod)⟩ (Sym.Ends Try.prog Try.f79 3 R N) := by
  refine Runs.go (cfg := C_lfreeB) L_lfreeB_ok mixed cuts_lsr 400 hb0 (lsr_t0 l l_t sp s_t us u_t) ?_
  have hne : ¬ (sp.length : Int) = (l.length : Int) := by omega
  simp only [T.wp, T.wp_cond, Aft, Int.ofNat_eq_natCast, decide_eq_true_eq, and_true, true_and, Nat.zero_add, Bool.not_eq_true', decide_eq_false_iff_not, hne, if_false]
  exact lsS_loop d hd1 l l_t sp s_t us u_t b0 hb0 hn hu h6 ha hbx R N 8 0 (by omega) (by omega) hR
theorem lsS_sound : ∀ d : Nat, Sound Try.prog cod 79 (s_lsS d) := by
  intro d
  induction d with
  | zero =>
    refine sound_runs (cfg := C_lfreeB) L_lfreeB_ok mixed Try.func79 rfl rfl _ fun args H r news hg b0 hb => ?_
    unfold s_lsS at hg
    split at hg
    · skip
      split at hg
      · rename_i l hx0
        cases asInp_spec hx0
        split at hg
        · rename_i sp hx1
          cases asInp_spec hx1
          split at hg
          · rename_i us hx2
            cases asInp_spec hx2
            simp only [T.gives, T.wp, Prod.mk.injEq] at hg
            obtain ⟨⟨⟨⟨rfl, rfl⟩, ⟨rfl, rfl⟩, rfl, rfl⟩, hu, hn, h6, ha, hbx⟩, g1, g2⟩ := hg
            exact lsZ_run l _ sp _ us _ b0 hb hn hu h6 ha hbx _ _ (F.res_of g1 g2)
          · exact hg.elim
        · exact hg.elim
      · exact hg.elim
    · exact hg.elim
  | succ d ih =>
    refine sound_runs (cfg := C_lfreeB) L_lfreeB_ok mixed Try.func79 rfl rfl _ fun args H r news hg b0 hb => ?_
    unfold s_lsS at hg
    split at hg
    · skip
      split at hg
      · rename_i l hx0
        cases asInp_spec hx0
        split at hg
        · rename_i sp hx1
          cases asInp_spec hx1
          split at hg
          · rename_i us hx2
            cases asInp_spec hx2
            simp only [T.gives, T.wp, Prod.mk.injEq] at hg
            obtain ⟨⟨⟨⟨rfl, rfl⟩, ⟨rfl, rfl⟩, rfl, rfl⟩, hu, hn, h6, ha, hbx⟩, g1, g2⟩ := hg
            exact lsS_run d ih l _ sp _ us _ b0 hb hn hu h6 ha hbx _ _ (F.res_of g1 g2)
          · exact hg.elim
        · exact hg.elim
      · exact hg.elim
    · exact hg.elim

end
end Go.Proofs.Ytffcfbamcaoidaa
