/- Part of a claim: lemmas on the way to its theorem; each states its own conditions. -/
import Derived.Test.YtffcfbamcaoidaaRaP
import Derived.Test.YtffcfbamcaoidaaSym30
import Derived.Test.YtffcfbamcaoidaaSym32
namespace Go.Proofs.Ytffcfbamcaoidaa
open Sym Go.RowKit
noncomputable section
set_option maxRecDepth 100000
set_option maxHeartbeats 4000000



/-- A row of kind t in a block of its own. -/
def asArr (t : Nat) (ty : TypeId) : HObj cod → Option (List (cod t).α)
  | .arr u l ty' => if h : u = t then (if ty' = ty then some (h ▸ l) else none) else none
  | _ => none
namespace F
def srB (l : List It) (g : List Int) (d : Nat) (o ts : List Int) (us : List Bool) : Bool := (sr l g d o ts us).isSome
def srR (l : List It) (g : List Int) (d : Nat) (o ts : List Int) (us : List Bool) : List Int := ((sr l g d o ts us).getD ([], [])).1
def srU (l : List It) (g : List Int) (d : Nat) (o ts : List Int) (us : List Bool) : List Bool := ((sr l g d o ts us).getD ([], [])).2
def srOk (l : List It) (g : List Int) (o ts : List Int) : Prop := (∀ m ∈ o, 0 ≤ m ∧ m < l.length) ∧ (∀ s ∈ ts, 0 ≤ s ∧ s ≤ 200000 + 1000 * (ts.length : Int)) ∧ (∀ x ∈ l, 0 ≤ x.2.1 ∧ x.2.1 ≤ 3 ∧ 0 ≤ x.2.2.1 ∧ x.2.2.1 ≤ 200000) ∧ (∀ x ∈ g, 0 ≤ x ∧ x ≤ 1000)
end F
noncomputable def s_sr0 : Summ cod := fun args H => match args, H with
  | [.c (.slc 0 li ln _), .agg [.int .i64 g0, .int .i64 g1, .int .i64 g2, .int .i64 g3, .int .i64 g4, .int .i64 g5, .int .i64 g6, .int .i64 g7, .int .i64 g8, .int .i64 g9, .int .i64 g10, .int .i64 g11, .int .i64 g12, .int .i64 g13, .int .i64 g14, .int .i64 g15], .c (.slc 1 oi on o_t), .c (.slc 2 ti tn _), .c (.slc 3 ui un _)], [o0, o1, o2, o3] => (match o0.asInp 7 with
    | some l => (match o1.asInp 0 with
      | some o => (match o2.asInp 0 with
        | some ts => (match asArr 3 4 o3 with
          | some us => .need (((li = 0 ∧ ln = List.length l) ∧ (oi = 0 ∧ on = List.length o) ∧ (ti = 0 ∧ tn = on) ∧ (ui = 0 ∧ un = ln)) ∧ on = ln) (.ret (.c (.slc 1 0 on o_t), [.dead, .dead, .dead, .arr 3 us 4]))
          | none => .fail)
        | none => .fail)
      | none => .fail)
    | none => .fail)
  | _, _ => .fail
noncomputable def s_srS (d : Nat) : Summ cod := fun args H => match args, H with
  | [.c (.slc 0 li ln _), .agg [.int .i64 g0, .int .i64 g1, .int .i64 g2, .int .i64 g3, .int .i64 g4, .int .i64 g5, .int .i64 g6, .int .i64 g7, .int .i64 g8, .int .i64 g9, .int .i64 g10, .int .i64 g11, .int .i64 g12, .int .i64 g13, .int .i64 g14, .int .i64 g15], .c (.slc 1 oi on _), .c (.slc 2 ti tn _), .c (.slc 3 ui un _)], [o0, o1, o2, o3] => (match o0.asInp 7 with
    | some l => (match o1.asInp 0 with
      | some o => (match o2.asInp 0 with
        | some ts => (match asArr 3 4 o3 with
          | some us => .need (((li = 0 ∧ ln = List.length l) ∧ (oi = 0 ∧ on = List.length o) ∧ (ti = 0 ∧ (tn = on ∧ tn = List.length ts)) ∧ (ui = 0 ∧ (un = ln ∧ un = List.length us))) ∧ on + (d + 1) = ln ∧ ln ≤ 6 ∧ F.srOk l [g0, g1, g2, g3, g4, g5, g6, g7, g8, g9, g10, g11, g12, g13, g14, g15] o ts)
            (.ite (F.srB l [g0, g1, g2, g3, g4, g5, g6, g7, g8, g9, g10, g11, g12, g13, g14, g15] (d + 1) o ts us) (.ret (.c (.slc 4 0 ln false), [.dead, .dead, .dead, .arr 3 (F.srU l [g0, g1, g2, g3, g4, g5, g6, g7, g8, g9, g10, g11, g12, g13, g14, g15] (d + 1) o ts us) 4, .own 0 (F.srR l [g0, g1, g2, g3, g4, g5, g6, g7, g8, g9, g10, g11, g12, g13, g14, g15] (d + 1) o ts us) 3])) (.ret (.c (.own 4 0), [.dead, .dead, .dead, .arr 3 us 4, .own 0 [] 3])))
          | none => .fail)
        | none => .fail)
      | none => .fail)
    | none => .fail)
  | _, _ => .fail
noncomputable def C_sr0 : Cfg cod := mkC ((85, .k (liftS [1, 2] s_sr0)) :: L_fact)
noncomputable def C_srS (d : Nat) : Cfg cod := mkC ((85, .k (liftS [1, 2] (s_srS d))) :: L_fact)
def cuts_sr : Cuts := [(5, [4, 11, 3, 2, 6, 0, 23, 24], 40)]

theorem sr_t0 (l : List (List UInt8 × Int × Int × Int)) (l_t : Bool) (g0 g1 g2 g3 g4 g5 g6 g7 g8 g9 g10 g11 g12 g13 g14 g15 : Int) (o : List Int) (o_t : Bool) (ts : List Int) (ts_t : Bool) (us : List Bool) (us_t : Bool) (ln on : Nat) : symI C_fact cuts_sr Try.f85.results.toList ([.inp 7 l, .inp 0 o, .inp 0 ts, .arr 3 us 4] : Heap cod) 400 [.code (codeOf Try.f85)] ⟨argsS Try.f85 [.c (.slc 0 0 ln l_t), .agg [.int .i64 g0, .int .i64 g1, .int .i64 g2, .int .i64 g3, .int .i64 g4, .int .i64 g5, .int .i64 g6, .int .i64 g7, .int .i64 g8, .int .i64 g9, .int .i64 g10, .int .i64 g11, .int .i64 g12, .int .i64 g13, .int .i64 g14, .int .i64 g15], .c (.slc 1 0 on o_t), .c (.slc 2 0 on ts_t), .c (.slc 3 0 ln us_t)], ([.inp 7 l, .inp 0 o, .inp 0 ts, .arr 3 us 4] : Heap cod)⟩ =
 cond (decide (Int.ofNat on = Int.ofNat ln)) (
 .ret (.fin (.c (.slc 1 0 (on) o_t)) [.dead, .dead, .dead, .arr 3 us 4])) (
 .ret (.cut (cutAt Try.f85 5) ⟨tmG 49 [(0, .c (.slc 0 0 (ln) l_t)), (1, .c (.slc 1 0 (on) o_t)), (0, .c (.slc 2 0 (on) ts_t)), (0, .c (.slc 3 0 (ln) us_t)), (1, .c (.ptr 4 0 0)), (4, .c (.int .i64 (Int.ofNat on))), (11, .c (.int .i64 (Int.ofNat ln))), (0, .c (.int .i64 0))], [.inp 7 l, .inp 0 o, .inp 0 ts, .arr 3 us 4, .arr 0 ([g0, g1, g2, g3, g4, g5, g6, g7, g8, g9, g10, g11, g12, g13, g14, g15]) 43, .own 0 [] 3]⟩)) := by kernel_rfl


noncomputable def st_sr_5 (l : List (List UInt8 × Int × Int × Int)) (l_t : Bool) (g0 g1 g2 g3 g4 g5 g6 g7 g8 g9 g10 g11 g12 g13 g14 g15 : Int) (o : List Int) (o_t : Bool) (ts : List Int) (ts_t : Bool) (us : List Bool) (us_t : Bool) (ln on : Nat) (k : Int) : St cod := ⟨tmG 49 [(0, .c (.slc 0 0 (ln) l_t)), (1, .c (.slc 1 0 (on) o_t)), (0, .c (.slc 2 0 (on) ts_t)), (0, .c (.slc 3 0 (ln) us_t)), (1, .c (.ptr 4 0 0)), (4, .c (.int .i64 (Int.ofNat on))), (11, .c (.int .i64 (Int.ofNat ln))), (0, .c (.int .i64 k))], [.inp 7 l, .inp 0 o, .inp 0 ts, .arr 3 us 4, .arr 0 ([g0, g1, g2, g3, g4, g5, g6, g7, g8, g9, g10, g11, g12, g13, g14, g15]) 43, .own 0 [] 3]⟩


theorem sr_t5z (l : List (List UInt8 × Int × Int × Int)) (l_t : Bool) (g0 g1 g2 g3 g4 g5 g6 g7 g8 g9 g10 g11 g12 g13 g14 g15 : Int) (o : List Int) (o_t : Bool) (ts : List Int) (ts_t : Bool) (us : List Bool) (us_t : Bool) (ln on : Nat) (k : Int) : symI C_sr0 cuts_sr Try.f85.results.toList ([.inp 7 l, .inp 0 o, .inp 0 ts, .arr 3 us 4] : Heap cod) 400 (cutAt Try.f85 5) (st_sr_5 l l_t g0 g1 g2 g3 g4 g5 g6 g7 g8 g9 g10 g11 g12 g13 g14 g15 o o_t ts ts_t us us_t ln on k) =
 cond (decide (k < Int.ofNat ln)) (
 .need (16 * 1 = 16) (
 .need (((0 = 0 ∧ ln = List.length l) ∧ ((0 = 0 ∧ on = List.length o) ∧ ((0 = 0 ∧ on = List.length ts) ∧ F.nextOk l [g0, g1, g2, g3, g4, g5, g6, g7, g8, g9, g10, g11, g12, g13, g14, g15] o ts k)))) (
 .need (((0 : Int) ≤ k ∧ k < Int.ofNat ln)) (
 .need (0 + Int.toNat k < List.length us) (
 cond (List.getD us (0 + Int.toNat k) (cod 3).d) (
  .need (i64ok (k + 1)) (
  .ret (.cut (cutAt Try.f85 5) ⟨tmG 49 [(0, .c (.slc 0 0 (ln) l_t)), (1, .c (.slc 1 0 (on) o_t)), (0, .c (.slc 2 0 (on) ts_t)), (0, .c (.slc 3 0 (ln) us_t)), (1, .c (.ptr 4 0 0)), (4, .c (.int .i64 (Int.ofNat on))), (11, .c (.int .i64 (Int.ofNat ln))), (0, .c (.int .i64 (k + 1)))], [.inp 7 l, .inp 0 o, .inp 0 ts, .arr 3 us 4, .arr 0 [g0, g1, g2, g3, g4, g5, g6, g7, g8, g9, g10, g11, g12, g13, g14, g15] 43, .own 0 [] 3]⟩))) (
  .need (((0 : Int) ≤ k ∧ k < Int.ofNat ln)) (
  .need (0 + Int.toNat k < List.length l) (
  cond (decide   ((List.getD l (0 + Int.toNat k) (cod 7).d).2.2.2 <     F.nextF l [g0, g1, g2, g3, g4, g5, g6, g7, g8, g9, g10, g11, g12, g13, g14, g15] k o ts (F.rdy l k))) (
   .need (i64ok (k + 1)) (
   .ret (.cut (cutAt Try.f85 5) ⟨tmG 49 [(0, .c (.slc 0 0 (ln) l_t)), (1, .c (.slc 1 0 (on) o_t)), (0, .c (.slc 2 0 (on) ts_t)), (0, .c (.slc 3 0 (ln) us_t)), (1, .c (.ptr 4 0 0)), (4, .c (.int .i64 (Int.ofNat on))), (11, .c (.int .i64 (Int.ofNat ln))), (0, .c (.int .i64 (k + 1)))], [.inp 7 l, .inp 0 o, .inp 0 ts, .arr 3 us 4, .arr 0 [g0, g1, g2, g3, g4, g5, g6, g7, g8, g9, g10, g11, g12, g13, g14, g15] 43, .own 0 [] 3]⟩))) (
   .need (((0 : Int) ≤ k ∧ k < Int.ofNat ln)) (
   .need (0 + Int.toNat k < List.length us) (
   .need (16 * 1 = 16) (
   .need (((0 : Int) ≤ Int.ofNat on ∧ (Int.ofNat on ≤ Int.ofNat on ∧ Int.ofNat on = Int.ofNat on))) (
   .need (1 = 1) (
   .need (List.length (List.take (Int.toNat (Int.ofNat on)) (List.drop 0 o)) = Int.toNat (Int.ofNat on)) (
   .need (((0 : Nat) < 1 ∧ Int.toNat (Int.ofNat on) + 1 ≤ 1000000)) (
   .need (((0 : Int) ≤ Int.ofNat on ∧ (Int.ofNat on ≤ Int.ofNat on ∧ Int.ofNat on = Int.ofNat on))) (
   .need (1 = 1) (
   .need (List.length (List.take (Int.toNat (Int.ofNat on)) (List.drop 0 ts)) = Int.toNat (Int.ofNat on)) (
   .need (((0 : Nat) < 1 ∧ Int.toNat (Int.ofNat on) + 1 ≤ 1000000)) (
   .need ((((0 = 0 ∧ ln = List.length l) ∧ ((0 = 0 ∧ Int.toNat (Int.ofNat on) + 1 = List.length (List.take (Int.toNat (Int.ofNat on)) (List.drop 0 o) ++ [k])) ∧ ((0 = 0 ∧ Int.toNat (Int.ofNat on) + 1 = Int.toNat (Int.ofNat on) + 1) ∧ (0 = 0 ∧ ln = ln)))) ∧ Int.toNat (Int.ofNat on) + 1 = ln)) (
   .need ((0 : Nat) < Int.toNat (Int.ofNat on) + 1) (
   .ret (.fin (.c (.slc 4 0 (Int.toNat (Int.ofNat on) + 1) false)) [.dead, .dead, .dead, .arr 3 (List.set us (0 + Int.toNat k) true) 4, .own 0 ((List.take (Int.toNat (Int.ofNat on)) (List.drop 0 o)) ++ [k]) 3]))))))))))))))))))))))) (
 .ret (.fin (.c (.own 4 0)) [.dead, .dead, .dead, .arr 3 us 4, .own 0 [] 3])) := by kernel_rfl


theorem sr_t5s (d : Nat) (l : List (List UInt8 × Int × Int × Int)) (l_t : Bool) (g0 g1 g2 g3 g4 g5 g6 g7 g8 g9 g10 g11 g12 g13 g14 g15 : Int) (o : List Int) (o_t : Bool) (ts : List Int) (ts_t : Bool) (us : List Bool) (us_t : Bool) (ln on : Nat) (k : Int) : symI (C_srS d) cuts_sr Try.f85.results.toList ([.inp 7 l, .inp 0 o, .inp 0 ts, .arr 3 us 4] : Heap cod) 400 (cutAt Try.f85 5) (st_sr_5 l l_t g0 g1 g2 g3 g4 g5 g6 g7 g8 g9 g10 g11 g12 g13 g14 g15 o o_t ts ts_t us us_t ln on k) =
 cond (decide (k < Int.ofNat ln)) (
 .need (16 * 1 = 16) (
 .need (((0 = 0 ∧ ln = List.length l) ∧ ((0 = 0 ∧ on = List.length o) ∧ ((0 = 0 ∧ on = List.length ts) ∧ F.nextOk l [g0, g1, g2, g3, g4, g5, g6, g7, g8, g9, g10, g11, g12, g13, g14, g15] o ts k)))) (
 .need (((0 : Int) ≤ k ∧ k < Int.ofNat ln)) (
 .need (0 + Int.toNat k < List.length us) (
 cond (List.getD us (0 + Int.toNat k) (cod 3).d) (
  .need (i64ok (k + 1)) (
  .ret (.cut (cutAt Try.f85 5) ⟨tmG 49 [(0, .c (.slc 0 0 (ln) l_t)), (1, .c (.slc 1 0 (on) o_t)), (0, .c (.slc 2 0 (on) ts_t)), (0, .c (.slc 3 0 (ln) us_t)), (1, .c (.ptr 4 0 0)), (4, .c (.int .i64 (Int.ofNat on))), (11, .c (.int .i64 (Int.ofNat ln))), (0, .c (.int .i64 (k + 1)))], [.inp 7 l, .inp 0 o, .inp 0 ts, .arr 3 us 4, .arr 0 [g0, g1, g2, g3, g4, g5, g6, g7, g8, g9, g10, g11, g12, g13, g14, g15] 43, .own 0 [] 3]⟩))) (
  .need (((0 : Int) ≤ k ∧ k < Int.ofNat ln)) (
  .need (0 + Int.toNat k < List.length l) (
  cond (decide   ((List.getD l (0 + Int.toNat k) (cod 7).d).2.2.2 <     F.nextF l [g0, g1, g2, g3, g4, g5, g6, g7, g8, g9, g10, g11, g12, g13, g14, g15] k o ts (F.rdy l k))) (
   .need (i64ok (k + 1)) (
   .ret (.cut (cutAt Try.f85 5) ⟨tmG 49 [(0, .c (.slc 0 0 (ln) l_t)), (1, .c (.slc 1 0 (on) o_t)), (0, .c (.slc 2 0 (on) ts_t)), (0, .c (.slc 3 0 (ln) us_t)), (1, .c (.ptr 4 0 0)), (4, .c (.int .i64 (Int.ofNat on))), (11, .c (.int .i64 (Int.ofNat ln))), (0, .c (.int .i64 (k + 1)))], [.inp 7 l, .inp 0 o, .inp 0 ts, .arr 3 us 4, .arr 0 [g0, g1, g2, g3, g4, g5, g6, g7, g8, g9, g10, g11, g12, g13, g14, g15] 43, .own 0 [] 3]⟩))) (
   .need (((0 : Int) ≤ k ∧ k < Int.ofNat ln)) (
   .need (0 + Int.toNat k < List.length us) (
   .need (16 * 1 = 16) (
   .need (((0 : Int) ≤ Int.ofNat on ∧ (Int.ofNat on ≤ Int.ofNat on ∧ Int.ofNat on = Int.ofNat on))) (
   .need (1 = 1) (
   .need (List.length (List.take (Int.toNat (Int.ofNat on)) (List.drop 0 o)) = Int.toNat (Int.ofNat on)) (
   .need (((0 : Nat) < 1 ∧ Int.toNat (Int.ofNat on) + 1 ≤ 1000000)) (
   .need (((0 : Int) ≤ Int.ofNat on ∧ (Int.ofNat on ≤ Int.ofNat on ∧ Int.ofNat on = Int.ofNat on))) (
   .need (1 = 1) (
   .need (List.length (List.take (Int.toNat (Int.ofNat on)) (List.drop 0 ts)) = Int.toNat (Int.ofNat on)) (
   .need (((0 : Nat) < 1 ∧ Int.toNat (Int.ofNat on) + 1 ≤ 1000000)) (
   .need ((((0 = 0 ∧ ln = List.length l) ∧ ((0 = 0 ∧ Int.toNat (Int.ofNat on) + 1 = List.length (List.take (Int.toNat (Int.ofNat on)) (List.drop 0 o) ++ [k])) ∧ ((0 = 0 ∧ (Int.toNat (Int.ofNat on) + 1 = Int.toNat (Int.ofNat on) + 1 ∧ Int.toNat (Int.ofNat on) + 1 =   List.length     (List.take (Int.toNat (Int.ofNat on)) (List.drop 0 ts) ++       [F.nextF l [g0, g1, g2, g3, g4, g5, g6, g7, g8, g9, g10, g11, g12, g13, g14, g15] k o ts (F.rdy l k)]))) ∧ (0 = 0 ∧ (ln = ln ∧ ln = List.length (List.set us (0 + Int.toNat k) true)))))) ∧ (Int.toNat (Int.ofNat on) + 1 + (d + 1) = ln ∧ (ln ≤ 6 ∧ F.srOk l [g0, g1, g2, g3, g4, g5, g6, g7, g8, g9, g10, g11, g12, g13, g14, g15]   (List.take (Int.toNat (Int.ofNat on)) (List.drop 0 o) ++ [k])   (List.take (Int.toNat (Int.ofNat on)) (List.drop 0 ts) ++     [F.nextF l [g0, g1, g2, g3, g4, g5, g6, g7, g8, g9, g10, g11, g12, g13, g14, g15] k o ts (F.rdy l k)]))))) (
   .ite (F.srB l [g0, g1, g2, g3, g4, g5, g6, g7, g8, g9, g10, g11, g12, g13, g14, g15] (d + 1)   (List.take (Int.toNat (Int.ofNat on)) (List.drop 0 o) ++ [k])   (List.take (Int.toNat (Int.ofNat on)) (List.drop 0 ts) ++     [F.nextF l [g0, g1, g2, g3, g4, g5, g6, g7, g8, g9, g10, g11, g12, g13, g14, g15] k o ts (F.rdy l k)])   (List.set us (0 + Int.toNat k) true)) (
    .need ((0 : Nat) < ln) (
    .ret (.fin (.c (.slc 4 0 (ln) false)) [.dead, .dead, .dead, .arr 3 (F.srU l [g0, g1, g2, g3, g4, g5, g6, g7, g8, g9, g10, g11, g12, g13, g14, g15] (d + 1)   (List.take (Int.toNat (Int.ofNat on)) (List.drop 0 o) ++ [k])   (List.take (Int.toNat (Int.ofNat on)) (List.drop 0 ts) ++     [F.nextF l [g0, g1, g2, g3, g4, g5, g6, g7, g8, g9, g10, g11, g12, g13, g14, g15] k o ts (F.rdy l k)])   (List.set us (0 + Int.toNat k) true)) 4, .own 0 (F.srR l [g0, g1, g2, g3, g4, g5, g6, g7, g8, g9, g10, g11, g12, g13, g14, g15] (d + 1)   (List.take (Int.toNat (Int.ofNat on)) (List.drop 0 o) ++ [k])   (List.take (Int.toNat (Int.ofNat on)) (List.drop 0 ts) ++     [F.nextF l [g0, g1, g2, g3, g4, g5, g6, g7, g8, g9, g10, g11, g12, g13, g14, g15] k o ts (F.rdy l k)])   (List.set us (0 + Int.toNat k) true)) 3]))) (
    .need (True) (
    .need (((0 : Int) ≤ k ∧ k < Int.ofNat ln)) (
    .need (0 + Int.toNat k < List.length (List.set us (0 + Int.toNat k) true)) (
    .need (i64ok (k + 1)) (
    .ret (.cut (cutAt Try.f85 5) ⟨tmG 49 [(0, .c (.slc 0 0 (ln) l_t)), (1, .c (.slc 1 0 (on) o_t)), (0, .c (.slc 2 0 (on) ts_t)), (0, .c (.slc 3 0 (ln) us_t)), (1, .c (.ptr 4 0 0)), (4, .c (.int .i64 (Int.ofNat on))), (11, .c (.int .i64 (Int.ofNat ln))), (0, .c (.int .i64 (k + 1)))], [.inp 7 l, .inp 0 o, .inp 0 ts, .arr 3 (List.set (List.set us (0 + Int.toNat k) true) (0 + Int.toNat k) false) 4, .arr 0 [g0, g1, g2, g3, g4, g5, g6, g7, g8, g9, g10, g11, g12, g13, g14, g15] 43, .own 0 [] 3, .arr 0 [k] 3, .own 0 ((List.take (Int.toNat (Int.ofNat on)) (List.drop 0 o)) ++ [k]) 3, .arr 0 ([F.nextF l [g0, g1, g2, g3, g4, g5, g6, g7, g8, g9, g10, g11, g12, g13, g14, g15] k o ts (F.rdy l k)]) 3, .own 0 ((List.take (Int.toNat (Int.ofNat on)) (List.drop 0 ts)) ++ ([F.nextF l [g0, g1, g2, g3, g4, g5, g6, g7, g8, g9, g10, g11, g12, g13, g14, g15] k o ts (F.rdy l k)])) 3, .own 0 [] 3]⟩))))))))))))))))))))))))))) (
 .ret (.fin (.c (.own 4 0)) [.dead, .dead, .dead, .arr 3 us 4, .own 0 [] 3])) := by kernel_rfl



theorem ite_yes {c : Prop} [Decidable c] {a b : Prop} (h : c) (x : a) : if c then a else b := by rw [if_pos h]; exact x
theorem ite_no {c : Prop} [Decidable c] {a b : Prop} (h : ¬ c) (x : b) : if c then a else b := by rw [if_neg h]; exact x
theorem asArr_spec {t : Nat} {ty : TypeId} {o : HObj cod} {l : List (cod t).α} (h : asArr t ty o = some l) : o = .arr t l ty := by
  unfold asArr at h
  split at h
  · split at h
    · rename_i e
      subst e
      split at h
      · rename_i e
        subst e
        cases h
        rfl
      · cases h
    · cases h
  · cases h
theorem SoundIK.stay {g : FuncId} {s : Summ cod} (h : SoundI Try.prog cod g s) (hno : ∀ args H r H', (s args H).gives (r, H') → ∀ i, (Sym.getObj H i).isOwn = false) : SoundIK Try.prog cod g true s := by
  refine ⟨h.enters, fun args H env w vs r H' G ha hg => (h.calls args H env w vs r H' G ha hg).mono ?_⟩
  rintro e w' ⟨v, env', h1, h2, h3⟩
  exact ⟨v, env', h1, fun i hi _ => h2 i hi (.inr (hno args H r H' hg i)), h3⟩
def F.resS (us : List Bool) (ln : Nat) : Option (List Int × List Bool) → SV × Heap cod
  | some x => (.c (.slc 4 0 ln false), [.dead, .dead, .dead, .arr 3 x.2 4, .own 0 x.1 3])
  | none => (.c (.own 4 0), [.dead, .dead, .dead, .arr 3 us 4, .own 0 [] 3])
theorem srOk_next {l : List F.It} {g o ts : List Int} (h : F.srOk l g o ts) (hlen : o.length = ts.length) (h6 : l.length ≤ 6) (ho : o.length ≤ 6) {k : Int} (hk : 0 ≤ k ∧ k < l.length) : F.nextOk l g o ts k := by
  obtain ⟨h1, h2, h3, h4⟩ := h
  refine ⟨hk, ⟨by omega, by omega⟩, h1, h3, fun s hs => ?_, h4⟩
  have := h2 s hs
  omega
theorem srOk_snoc {l : List F.It} {g o ts : List Int} (h : F.srOk l g o ts) {k : Int} (hk : 0 ≤ k ∧ k < l.length) : F.srOk l g (o ++ [k]) (ts ++ [F.nextF l g k o ts (F.rdy l k)]) := by
  obtain ⟨h1, h2, h3, h4⟩ := h
  have hr : 0 ≤ F.rdy l k ∧ F.rdy l k ≤ 200000 := getD_all (p := fun x : F.It => 0 ≤ x.2.2.1 ∧ x.2.2.1 ≤ 200000) (fun x hx => (h3 x hx).2.2) (by simp) _
  have hb := nextF_bd (l := l) h4 k (200000 + 1000 * (ts.length : Int)) o ts (F.rdy l k) h2 (by omega)
  refine ⟨fun m hm => ?_, fun s hs => ?_, h3, h4⟩
  · rcases List.mem_append.1 hm with hm | hm
    · exact h1 m hm
    · rw [List.mem_singleton.1 hm]; exact hk
  · rw [List.length_append, List.length_singleton]
    rcases List.mem_append.1 hs with hs | hs
    · have := h2 s hs
      omega
    · rw [List.mem_singleton.1 hs]
      omega
theorem set_back {us : List Bool} {k : Nat} (hk : k < us.length) (h : us.getD k false = false) : (us.set k true).set k false = us := by
  rw [List.set_set]
  have e : us[k] = false := by
    rw [List.getD, List.getElem?_eq_getElem hk] at h
    exact h
  rw [← e]
  exact List.set_getElem_self hk
theorem sr0_sound : SoundI Try.prog cod 85 s_sr0 := tree_soundI (cfg := C_fact) Try.func85 rfl rfl _ fun args H r H' hg b0 hb => by
  unfold s_sr0 at hg
  split at hg
  · rename_i li ln l_t g0 g1 g2 g3 g4 g5 g6 g7 g8 g9 g10 g11 g12 g13 g14 g15 oi on o_t ti tn ts_t ui un us_t o0 o1 o2 o3
    split at hg
    · rename_i l hx0
      split at hg
      · rename_i o hx1
        split at hg
        · rename_i ts hx2
          split at hg
          · rename_i us hx3
            cases asInp_spec hx0
            cases asInp_spec hx1
            cases asInp_spec hx2
            cases asArr_spec hx3
            simp only [T.gives, T.wp, Prod.mk.injEq] at hg
            obtain ⟨⟨⟨⟨rfl, hln⟩, ⟨rfl, hon⟩, ⟨rfl, rfl⟩, rfl, rfl⟩, he⟩, rfl, rfl⟩ := hg
            refine Runs.goI (cfg := C_fact) L_fact_ok mixed cuts_sr 400 (H := ([.inp 7 l, .inp 0 o, .inp 0 ts, .arr 3 us 4] : Heap cod)) hb (sr_t0 l _ g0 g1 g2 g3 g4 g5 g6 g7 g8 g9 g10 g11 g12 g13 g14 g15 o _ ts _ us _ _ _) ?_
            simp only [T.wp, T.wp_cond, Aft, decide_eq_true_eq]
            exact ite_yes (by rw [he]) ⟨trivial, trivial⟩
          · exact hg.elim
        · exact hg.elim
      · exact hg.elim
    · exact hg.elim
  · exact hg.elim
theorem sr0_no {args : List SV} {H : Heap cod} {r : SV} {H' : Heap cod} (hg : (s_sr0 args H).gives (r, H')) (i : Nat) : (Sym.getObj H i).isOwn = false := by
  unfold s_sr0 at hg
  split at hg
  · split at hg
    · rename_i l hx0
      split at hg
      · rename_i o hx1
        split at hg
        · rename_i ts hx2
          split at hg
          · rename_i us hx3
            cases asInp_spec hx0
            cases asInp_spec hx1
            cases asInp_spec hx2
            cases asArr_spec hx3
            match i with
            | 0 => rfl
            | 1 => rfl
            | 2 => rfl
            | 3 => rfl
            | _ + 4 => rfl
          · exact hg.elim
        · exact hg.elim
      · exact hg.elim
    · exact hg.elim
  · exact hg.elim
theorem srS_no {d : Nat} {args : List SV} {H : Heap cod} {r : SV} {H' : Heap cod} (hg : (s_srS d args H).gives (r, H')) (i : Nat) : (Sym.getObj H i).isOwn = false := by
  unfold s_srS at hg
  split at hg
  · split at hg
    · rename_i l hx0
      split at hg
      · rename_i o hx1
        split at hg
        · rename_i ts hx2
          split at hg
          · rename_i us hx3
            cases asInp_spec hx0
            cases asInp_spec hx1
            cases asInp_spec hx2
            cases asArr_spec hx3
            match i with
            | 0 => rfl
            | 1 => rfl
            | 2 => rfl
            | 3 => rfl
            | _ + 4 => rfl
          · exact hg.elim
        · exact hg.elim
      · exact hg.elim
    · exact hg.elim
  · exact hg.elim
theorem L_sr0_ok : Snd Try.prog cod ((85, .k (liftS [1, 2] s_sr0)) :: L_fact) := Snd.consK (lift_soundI [1, 2] (SoundIK.stay sr0_sound fun _ _ _ _ h => sr0_no h)) L_fact_ok
theorem L_srS_ok {d : Nat} (h : SoundI Try.prog cod 85 (s_srS d)) : Snd Try.prog cod ((85, .k (liftS [1, 2] (s_srS d))) :: L_fact) := Snd.consK (lift_soundI [1, 2] (SoundIK.stay h fun _ _ _ _ h => srS_no h)) L_fact_ok
theorem srZ_loop (l : List F.It) (l_t : Bool) (g0 g1 g2 g3 g4 g5 g6 g7 g8 g9 g10 g11 g12 g13 g14 g15 : Int) (o : List Int) (o_t : Bool) (ts : List Int) (ts_t : Bool) (us : List Bool) (us_t : Bool) (ln on : Nat) (hln : ln = l.length) (hon : on = o.length) (hts : on = ts.length) (hus : ln = us.length) (hd : on + (0 + 1) = ln) (h6 : ln ≤ 6) (hok : F.srOk l [g0, g1, g2, g3, g4, g5, g6, g7, g8, g9, g10, g11, g12, g13, g14, g15] o ts) (b0 : Base) (hb : b0.n = 4) (R : SV) (N : Heap cod) :
    ∀ (m : Nat) (k : Int), 0 ≤ k → k + m = ln → (R, N) = F.resS us ln (F.sgo l [g0, g1, g2, g3, g4, g5, g6, g7, g8, g9, g10, g11, g12, g13, g14, g15] (F.sr l [g0, g1, g2, g3, g4, g5, g6, g7, g8, g9, g10, g11, g12, g13, g14, g15] (0)) o ts us m k) →
    Sym.Runs Try.prog b0 (cutAt Try.f85 5) (st_sr_5 l l_t g0 g1 g2 g3 g4 g5 g6 g7 g8 g9 g10 g11 g12 g13 g14 g15 o o_t ts ts_t us us_t ln on k) (Sym.EndsI Try.prog Try.f85 ([.inp 7 l, .inp 0 o, .inp 0 ts, .arr 3 us 4] : Heap cod) R N) := by
  intro m
  induction m with
  | zero =>
    intro k h0 hm hR
    simp only [F.sgo, F.resS, Prod.mk.injEq] at hR
    obtain ⟨rfl, rfl⟩ := hR
    refine Runs.goI (cfg := C_sr0) (L_sr0_ok) mixed cuts_sr 400 (H := ([.inp 7 l, .inp 0 o, .inp 0 ts, .arr 3 us 4] : Heap cod)) hb (sr_t5z l l_t g0 g1 g2 g3 g4 g5 g6 g7 g8 g9 g10 g11 g12 g13 g14 g15 o o_t ts ts_t us us_t ln on k) ?_
    simp only [T.wp, T.wp_cond, Aft, decide_eq_true_eq]
    exact ite_no (by simp only [Int.ofNat_eq_natCast]; omega) ⟨trivial, trivial⟩
  | succ m ih =>
    intro k h0 hm hR
    have kl : k.toNat < l.length := by omega
    have ku : k.toNat < us.length := by omega
    have k64 : i64ok (k + 1) := by unfold i64ok; omega
    have k1 : (0 : Int) ≤ k ∧ k < (ln : Int) := by omega
    have nok := srOk_next hok (by omega) (by omega) (by omega) (k := k) (by omega)
    have sok := srOk_snoc hok (k := k) (by omega)
    have t1 : List.take on o = o := List.take_of_length_le (by omega)
    have t2 : List.take on ts = ts := List.take_of_length_le (by omega)
    have nx := ih (k + 1) (by omega) (by omega)
    have c1 : (0 : Int) ≤ (on : Int) ∧ ((on : Int) ≤ (on : Int) ∧ True) := ⟨by omega, by omega, trivial⟩
    rw [F.sgo] at hR
    refine Runs.goI (cfg := C_sr0) (L_sr0_ok) mixed cuts_sr 400 (H := ([.inp 7 l, .inp 0 o, .inp 0 ts, .arr 3 us 4] : Heap cod)) hb (sr_t5z l l_t g0 g1 g2 g3 g4 g5 g6 g7 g8 g9 g10 g11 g12 g13 g14 g15 o o_t ts ts_t us us_t ln on k) ?_
    simp only [T.wp, T.wp_cond, Aft, decide_eq_true_eq, Nat.zero_add, List.drop_zero, Int.ofNat_eq_natCast, Int.toNat_natCast, t1, t2]
    refine ite_yes k1.2 ⟨trivial, ⟨⟨trivial, hln⟩, ⟨trivial, hon⟩, ⟨trivial, hts⟩, nok⟩, k1, ku, ?_⟩
    cases hu : us.getD k.toNat false with
    | true =>
      rw [hu, Bool.true_or, if_pos rfl] at hR
      exact ite_yes hu ⟨k64, nx hR⟩
    | false =>
      rw [hu, Bool.false_or] at hR
      refine ite_no (by
        change ¬ us.getD k.toNat false = true
        rw [hu]; decide) ⟨k1, kl, ?_⟩
      by_cases hl : F.slot l k < F.nextF l [g0, g1, g2, g3, g4, g5, g6, g7, g8, g9, g10, g11, g12, g13, g14, g15] k o ts (F.rdy l k)
      · rw [if_pos (by simpa using hl)] at hR
        exact ite_yes hl ⟨k64, nx hR⟩
      · rw [if_neg (by simpa using hl)] at hR
        refine ite_no hl ⟨k1, ku, trivial, c1, trivial, by omega, ⟨by decide, by omega⟩, c1, trivial, by omega, ⟨by decide, by omega⟩, ?_⟩
        have e0 : F.sr l [g0, g1, g2, g3, g4, g5, g6, g7, g8, g9, g10, g11, g12, g13, g14, g15] 0 (o ++ [k]) (ts ++ [F.nextF l [g0, g1, g2, g3, g4, g5, g6, g7, g8, g9, g10, g11, g12, g13, g14, g15] k o ts (F.rdy l k)]) (us.set k.toNat true) = some (o ++ [k], us.set k.toNat true) := rfl
        rw [e0] at hR
        simp only [F.resS, Prod.mk.injEq] at hR
        obtain ⟨rfl, rfl⟩ := hR
        refine ⟨⟨⟨⟨trivial, hln⟩, ⟨trivial, by rw [List.length_append, List.length_singleton]; omega⟩, ⟨trivial, trivial⟩, trivial, trivial⟩, by omega⟩, by omega, ?_⟩
        have e1 : on + 1 = ln := by omega
        rw [e1]
        exact ⟨rfl, rfl⟩

theorem srS_loop (d : Nat) (hrec : SoundI Try.prog cod 85 (s_srS d)) (l : List F.It) (l_t : Bool) (g0 g1 g2 g3 g4 g5 g6 g7 g8 g9 g10 g11 g12 g13 g14 g15 : Int) (o : List Int) (o_t : Bool) (ts : List Int) (ts_t : Bool) (us : List Bool) (us_t : Bool) (ln on : Nat) (hln : ln = l.length) (hon : on = o.length) (hts : on = ts.length) (hus : ln = us.length) (hd : on + (d + 1 + 1) = ln) (h6 : ln ≤ 6) (hok : F.srOk l [g0, g1, g2, g3, g4, g5, g6, g7, g8, g9, g10, g11, g12, g13, g14, g15] o ts) (b0 : Base) (hb : b0.n = 4) (R : SV) (N : Heap cod) :
    ∀ (m : Nat) (k : Int), 0 ≤ k → k + m = ln → (R, N) = F.resS us ln (F.sgo l [g0, g1, g2, g3, g4, g5, g6, g7, g8, g9, g10, g11, g12, g13, g14, g15] (F.sr l [g0, g1, g2, g3, g4, g5, g6, g7, g8, g9, g10, g11, g12, g13, g14, g15] (d + 1)) o ts us m k) →
    Sym.Runs Try.prog b0 (cutAt Try.f85 5) (st_sr_5 l l_t g0 g1 g2 g3 g4 g5 g6 g7 g8 g9 g10 g11 g12 g13 g14 g15 o o_t ts ts_t us us_t ln on k) (Sym.EndsI Try.prog Try.f85 ([.inp 7 l, .inp 0 o, .inp 0 ts, .arr 3 us 4] : Heap cod) R N) := by
  intro m
  induction m with
  | zero =>
    intro k h0 hm hR
    simp only [F.sgo, F.resS, Prod.mk.injEq] at hR
    obtain ⟨rfl, rfl⟩ := hR
    refine Runs.goI (cfg := C_srS d) (L_srS_ok hrec) mixed cuts_sr 400 (H := ([.inp 7 l, .inp 0 o, .inp 0 ts, .arr 3 us 4] : Heap cod)) hb (sr_t5s d l l_t g0 g1 g2 g3 g4 g5 g6 g7 g8 g9 g10 g11 g12 g13 g14 g15 o o_t ts ts_t us us_t ln on k) ?_
    simp only [T.wp, T.wp_cond, Aft, decide_eq_true_eq]
    exact ite_no (by simp only [Int.ofNat_eq_natCast]; omega) ⟨trivial, trivial⟩
  | succ m ih =>
    intro k h0 hm hR
    have kl : k.toNat < l.length := by omega
    have ku : k.toNat < us.length := by omega
    have k64 : i64ok (k + 1) := by unfold i64ok; omega
    have k1 : (0 : Int) ≤ k ∧ k < (ln : Int) := by omega
    have nok := srOk_next hok (by omega) (by omega) (by omega) (k := k) (by omega)
    have sok := srOk_snoc hok (k := k) (by omega)
    have t1 : List.take on o = o := List.take_of_length_le (by omega)
    have t2 : List.take on ts = ts := List.take_of_length_le (by omega)
    have nx := ih (k + 1) (by omega) (by omega)
    have c1 : (0 : Int) ≤ (on : Int) ∧ ((on : Int) ≤ (on : Int) ∧ True) := ⟨by omega, by omega, trivial⟩
    rw [F.sgo] at hR
    refine Runs.goI (cfg := C_srS d) (L_srS_ok hrec) mixed cuts_sr 400 (H := ([.inp 7 l, .inp 0 o, .inp 0 ts, .arr 3 us 4] : Heap cod)) hb (sr_t5s d l l_t g0 g1 g2 g3 g4 g5 g6 g7 g8 g9 g10 g11 g12 g13 g14 g15 o o_t ts ts_t us us_t ln on k) ?_
    simp only [T.wp, T.wp_cond, Aft, decide_eq_true_eq, Nat.zero_add, List.drop_zero, Int.ofNat_eq_natCast, Int.toNat_natCast, t1, t2]
    refine ite_yes k1.2 ⟨trivial, ⟨⟨trivial, hln⟩, ⟨trivial, hon⟩, ⟨trivial, hts⟩, nok⟩, k1, ku, ?_⟩
    cases hu : us.getD k.toNat false with
    | true =>
      rw [hu, Bool.true_or, if_pos rfl] at hR
      exact ite_yes hu ⟨k64, nx hR⟩
    | false =>
      rw [hu, Bool.false_or] at hR
      refine ite_no (by
        change ¬ us.getD k.toNat false = true
        rw [hu]; decide) ⟨k1, kl, ?_⟩
      by_cases hl : F.slot l k < F.nextF l [g0, g1, g2, g3, g4, g5, g6, g7, g8, g9, g10, g11, g12, g13, g14, g15] k o ts (F.rdy l k)
      · rw [if_pos (by simpa using hl)] at hR
        exact ite_yes hl ⟨k64, nx hR⟩
      · rw [if_neg (by simpa using hl)] at hR
        refine ite_no hl ⟨k1, ku, trivial, c1, trivial, by omega, ⟨by decide, by omega⟩, c1, trivial, by omega, ⟨by decide, by omega⟩, ?_⟩
        refine ⟨⟨⟨⟨trivial, hln⟩, ⟨trivial, by rw [List.length_append, List.length_singleton]; omega⟩, ⟨trivial, trivial, by rw [List.length_append, List.length_singleton]; omega⟩, trivial, trivial, by rw [List.length_set]; omega⟩, by omega, h6, sok⟩, ?_⟩
        cases hs : F.sr l [g0, g1, g2, g3, g4, g5, g6, g7, g8, g9, g10, g11, g12, g13, g14, g15] (d + 1) (o ++ [k]) (ts ++ [F.nextF l [g0, g1, g2, g3, g4, g5, g6, g7, g8, g9, g10, g11, g12, g13, g14, g15] k o ts (F.rdy l k)]) (us.set k.toNat true) with
        | some x =>
          rw [hs] at hR
          simp only [F.resS, Prod.mk.injEq] at hR
          obtain ⟨rfl, rfl⟩ := hR
          have eB : F.srB l [g0, g1, g2, g3, g4, g5, g6, g7, g8, g9, g10, g11, g12, g13, g14, g15] (d + 1) (o ++ [k]) (ts ++ [F.nextF l [g0, g1, g2, g3, g4, g5, g6, g7, g8, g9, g10, g11, g12, g13, g14, g15] k o ts (F.rdy l k)]) (us.set k.toNat true) = true := by unfold F.srB; rw [hs]; rfl
          have eR : F.srR l [g0, g1, g2, g3, g4, g5, g6, g7, g8, g9, g10, g11, g12, g13, g14, g15] (d + 1) (o ++ [k]) (ts ++ [F.nextF l [g0, g1, g2, g3, g4, g5, g6, g7, g8, g9, g10, g11, g12, g13, g14, g15] k o ts (F.rdy l k)]) (us.set k.toNat true) = x.1 := by unfold F.srR; rw [hs]; rfl
          have eU : F.srU l [g0, g1, g2, g3, g4, g5, g6, g7, g8, g9, g10, g11, g12, g13, g14, g15] (d + 1) (o ++ [k]) (ts ++ [F.nextF l [g0, g1, g2, g3, g4, g5, g6, g7, g8, g9, g10, g11, g12, g13, g14, g15] k o ts (F.rdy l k)]) (us.set k.toNat true) = x.2 := by unfold F.srU; rw [hs]; rfl
          refine ⟨fun _ => ⟨by omega, rfl, ?_⟩, fun h => by rw [eB] at h; cases h⟩
          rw [eR, eU]
        | none =>
          rw [hs] at hR
          have eB : F.srB l [g0, g1, g2, g3, g4, g5, g6, g7, g8, g9, g10, g11, g12, g13, g14, g15] (d + 1) (o ++ [k]) (ts ++ [F.nextF l [g0, g1, g2, g3, g4, g5, g6, g7, g8, g9, g10, g11, g12, g13, g14, g15] k o ts (F.rdy l k)]) (us.set k.toNat true) = false := by unfold F.srB; rw [hs]; rfl
          refine ⟨fun h => by (rw [eB] at h; cases h), fun _ => ⟨trivial, k1, by rw [List.length_set]; exact ku, k64, ?_⟩⟩
          have nx2 : ∀ us', us' = us → Sym.Runs Try.prog b0 (cutAt Try.f85 5) (st_sr_5 l l_t g0 g1 g2 g3 g4 g5 g6 g7 g8 g9 g10 g11 g12 g13 g14 g15 o o_t ts ts_t us' us_t ln on (k + 1)) (Sym.EndsI Try.prog Try.f85 ([.inp 7 l, .inp 0 o, .inp 0 ts, .arr 3 us 4] : Heap cod) R N) := fun us' e => by rw [e]; exact nx hR
          exact Runs.turn [0, 1, 2, 3, 4, 5] 24 hb (by decide) rfl rfl rfl (nx2 _ (set_back ku hu))

theorem srS_sound : ∀ d : Nat, SoundI Try.prog cod 85 (s_srS d) := by
  intro d
  induction d with
  | zero =>
    refine tree_soundI (cfg := C_fact) Try.func85 rfl rfl _ fun args H r H' hg b0 hb => ?_
    unfold s_srS at hg
    split at hg
    · rename_i li ln l_t g0 g1 g2 g3 g4 g5 g6 g7 g8 g9 g10 g11 g12 g13 g14 g15 oi on o_t ti tn ts_t ui un us_t o0 o1 o2 o3
      split at hg
      · rename_i l hx0
        split at hg
        · rename_i o hx1
          split at hg
          · rename_i ts hx2
            split at hg
            · rename_i us hx3
              cases asInp_spec hx0
              cases asInp_spec hx1
              cases asInp_spec hx2
              cases asArr_spec hx3
              simp only [T.gives, T.wp, Prod.mk.injEq] at hg
              obtain ⟨⟨⟨⟨rfl, hln⟩, ⟨rfl, hon⟩, ⟨rfl, rfl, hts⟩, rfl, rfl, hus⟩, hd, h6, hok⟩, q1, q2⟩ := hg
              refine Runs.goI (cfg := C_fact) L_fact_ok mixed cuts_sr 400 (H := ([.inp 7 l, .inp 0 o, .inp 0 ts, .arr 3 us 4] : Heap cod)) hb (sr_t0 l l_t g0 g1 g2 g3 g4 g5 g6 g7 g8 g9 g10 g11 g12 g13 g14 g15 o o_t ts ts_t us us_t _ _) ?_
              simp only [T.wp, T.wp_cond, Aft, decide_eq_true_eq]
              refine ite_no (by simp only [Int.ofNat_eq_natCast]; omega) ?_
              refine srZ_loop l l_t g0 g1 g2 g3 g4 g5 g6 g7 g8 g9 g10 g11 g12 g13 g14 g15 o o_t ts ts_t us us_t _ _ hln hon hts hus (by omega) h6 hok b0 hb r H' _ 0 (by omega) (Int.zero_add _) ?_
              have e : F.sr l [g0, g1, g2, g3, g4, g5, g6, g7, g8, g9, g10, g11, g12, g13, g14, g15] (0 + 1) o ts us = F.sgo l [g0, g1, g2, g3, g4, g5, g6, g7, g8, g9, g10, g11, g12, g13, g14, g15] (F.sr l [g0, g1, g2, g3, g4, g5, g6, g7, g8, g9, g10, g11, g12, g13, g14, g15] 0) o ts us l.length 0 := rfl
              rw [hln, ← e]
              simp only [F.srB, F.srR, F.srU] at q1 q2
              rw [hln] at q1
              cases hs : F.sr l [g0, g1, g2, g3, g4, g5, g6, g7, g8, g9, g10, g11, g12, g13, g14, g15] (0 + 1) o ts us with
              | some x =>
                rw [hs] at q1
                obtain ⟨rfl, rfl⟩ := q1 rfl
                rfl
              | none =>
                rw [hs] at q2
                obtain ⟨rfl, rfl⟩ := q2 rfl
                rfl
            · exact hg.elim
          · exact hg.elim
        · exact hg.elim
      · exact hg.elim
    · exact hg.elim
  | succ d ih =>
    refine tree_soundI (cfg := C_fact) Try.func85 rfl rfl _ fun args H r H' hg b0 hb => ?_
    unfold s_srS at hg
    split at hg
    · rename_i li ln l_t g0 g1 g2 g3 g4 g5 g6 g7 g8 g9 g10 g11 g12 g13 g14 g15 oi on o_t ti tn ts_t ui un us_t o0 o1 o2 o3
      split at hg
      · rename_i l hx0
        split at hg
        · rename_i o hx1
          split at hg
          · rename_i ts hx2
            split at hg
            · rename_i us hx3
              cases asInp_spec hx0
              cases asInp_spec hx1
              cases asInp_spec hx2
              cases asArr_spec hx3
              simp only [T.gives, T.wp, Prod.mk.injEq] at hg
              obtain ⟨⟨⟨⟨rfl, hln⟩, ⟨rfl, hon⟩, ⟨rfl, rfl, hts⟩, rfl, rfl, hus⟩, hd, h6, hok⟩, q1, q2⟩ := hg
              refine Runs.goI (cfg := C_fact) L_fact_ok mixed cuts_sr 400 (H := ([.inp 7 l, .inp 0 o, .inp 0 ts, .arr 3 us 4] : Heap cod)) hb (sr_t0 l l_t g0 g1 g2 g3 g4 g5 g6 g7 g8 g9 g10 g11 g12 g13 g14 g15 o o_t ts ts_t us us_t _ _) ?_
              simp only [T.wp, T.wp_cond, Aft, decide_eq_true_eq]
              refine ite_no (by simp only [Int.ofNat_eq_natCast]; omega) ?_
              refine srS_loop d ih l l_t g0 g1 g2 g3 g4 g5 g6 g7 g8 g9 g10 g11 g12 g13 g14 g15 o o_t ts ts_t us us_t _ _ hln hon hts hus (by omega) h6 hok b0 hb r H' _ 0 (by omega) (Int.zero_add _) ?_
              have e : F.sr l [g0, g1, g2, g3, g4, g5, g6, g7, g8, g9, g10, g11, g12, g13, g14, g15] (d + 1 + 1) o ts us = F.sgo l [g0, g1, g2, g3, g4, g5, g6, g7, g8, g9, g10, g11, g12, g13, g14, g15] (F.sr l [g0, g1, g2, g3, g4, g5, g6, g7, g8, g9, g10, g11, g12, g13, g14, g15] (d + 1)) o ts us l.length 0 := rfl
              rw [hln, ← e]
              simp only [F.srB, F.srR, F.srU] at q1 q2
              rw [hln] at q1
              cases hs : F.sr l [g0, g1, g2, g3, g4, g5, g6, g7, g8, g9, g10, g11, g12, g13, g14, g15] (d + 1 + 1) o ts us with
              | some x =>
                rw [hs] at q1
                obtain ⟨rfl, rfl⟩ := q1 rfl
                rfl
              | none =>
                rw [hs] at q2
                obtain ⟨rfl, rfl⟩ := q2 rfl
                rfl
            · exact hg.elim
          · exact hg.elim
        · exact hg.elim
      · exact hg.elim
    · exact hg.elim

end
end Go.Proofs.Ytffcfbamcaoidaa
