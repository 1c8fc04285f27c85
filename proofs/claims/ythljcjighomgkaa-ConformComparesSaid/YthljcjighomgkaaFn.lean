/- Part of a claim: lemmas on the way to its theorem; each states its own conditions. -/
import Derived.Test.YthljcjighomgkaaFm
namespace Go.Proofs.Ythljcjighomgkaa
open Sym Go.RowKit
noncomputable section
set_option maxRecDepth 100000
set_option maxHeartbeats 4000000



def cuts_cclaw : Cuts := [(100020, [14, 18, 11, 19, 8, 12, 9, 17, 10, 2], 5)]
def cuts_cclaw_r20 : Cuts := []

theorem cclaw_t0 (l : List (Int × Int × Int × Int × Int × Int)) (l_t : Bool) (i st t x y sx sy h r ra c hi mi : Int) : symF C_excess cuts_cclaw Try.f12.results.toList 1 400 [.code (codeOf Try.f12)] ⟨argsS Try.f12 [.agg [.int .i64 i, .int .i64 st, .int .i64 t, .int .i64 x, .int .i64 y, .int .i64 sx, .int .i64 sy, .int .i64 h, .int .i64 r, .int .i64 ra, .int .i64 c, .int .i64 hi, .int .i64 mi], .c (.slc 0 0 (List.length l) l_t)], ([.inp 2 l] : Heap cod)⟩ =
.need ((0 = 0 ∧ 1 = 1)) (
.need ((0 = 0 ∧ List.length l = List.length l)) (
.need ((0 = 0 ∧ List.length l = List.length l)) (
.need ((0 = 0 ∧ List.length l = List.length l)) (
 cond (!decide (F.tpart t x y h ra 0 = 0)) (
 cond (!decide (F.tpart t x y h ra 0 = 0)) (
  cond (decide (F.nodeE t x y h ra l = F.tpart t x y h ra 0)) (
   cond (decide (F.nodeE t x y h ra l = F.tpart t x y h ra 0)) (
    cond (decide (F.cmpR t x y h ra l = 0)) (
     cond (decide (F.exS t x y h ra l = 0)) (
      .ret (.fin (.c (.bool (decide (F.exH t x y h ra l = 0)))) [])) (
      .ret (.fin (.c (.bool false)) []))) (
     .ret (.fin (.c (.bool false)) []))) (
    .ret (.fin (.c (.bool false)) []))) (
   .ret (.fin (.c (.bool false)) []))) (
  .need ((F.b9 (F.atR l t).2.1 ∧ (F.b9 (F.atR l t).2.2.1 ∧ (F.b9 x ∧ F.b9 y)))) (
  .need (i64ok (F.apart (F.atR l t).2.2.2.1 h)) (
  .need (i64ok ((F.atR l t).2.2.2.2.1 + ra)) (
  .need (i64ok ((F.atR l t).2.2.2.2.1 + ra)) (
  .need (i64ok (((F.atR l t).2.2.2.2.1 + ra) * ((F.atR l t).2.2.2.2.1 + ra))) (
  cond (decide (((F.atR l t).2.2.2.2.1 + ra) * ((F.atR l t).2.2.2.2.1 + ra) < F.far (F.atR l t).2.1 (F.atR l t).2.2.1 x y)) (
   .ret (.cut (regAt Try.f12 20) ⟨tmG 178 [(2, .c (.ptr 1 0 0)), (5, .c (.int .i64 (F.cmpR t x y h ra l))), (0, .c (.int .i64 (F.nodeE t x y h ra l))), (0, .c (.int .i64 (F.exS t x y h ra l))), (0, .c (.int .i64 (F.exH t x y h ra l))), (0, .c (.int .i64 (F.nodeE t x y h ra l))), (1, .c (.ptr 4 0 0)), (2, .c (.int .i64 (F.far (F.atR l t).2.1 (F.atR l t).2.2.1 x y))), (0, .c (.int .i64 (F.apart (F.atR l t).2.2.2.1 h))), (0, .c (.int .i64 2))], [.inp 2 l, .blk [.int .i64 i, .int .i64 st, .int .i64 t, .int .i64 x, .int .i64 y, .int .i64 sx, .int .i64 sy, .int .i64 h, .int .i64 r, .int .i64 ra, .int .i64 c, .int .i64 hi, .int .i64 mi] 25, .arr 2 ([(0, 0, 0, 0, 30, 0)]) 92, .blk [.int .i64 i, .int .i64 st, .int .i64 t, .int .i64 x, .int .i64 y, .int .i64 sx, .int .i64 sy, .int .i64 h, .int .i64 r, .int .i64 ra, .int .i64 0, .int .i64 hi, .int .i64 mi] 25, .blk [.int .i64 ((F.atR l t).1), .int .i64 ((F.atR l t).2.1), .int .i64 ((F.atR l t).2.2.1), .int .i64 ((F.atR l t).2.2.2.1), .int .i64 ((F.atR l t).2.2.2.2.1), .int .i64 ((F.atR l t).2.2.2.2.2)] 92]⟩)) (
   .need (i64ok ((F.atR l t).2.2.2.2.2 + 100)) (
   cond (decide ((F.atR l t).2.2.2.2.2 + 100 < F.apart (F.atR l t).2.2.2.1 h)) (
    .ret (.cut (regAt Try.f12 20) ⟨tmG 178 [(2, .c (.ptr 1 0 0)), (5, .c (.int .i64 (F.cmpR t x y h ra l))), (0, .c (.int .i64 (F.nodeE t x y h ra l))), (0, .c (.int .i64 (F.exS t x y h ra l))), (0, .c (.int .i64 (F.exH t x y h ra l))), (0, .c (.int .i64 (F.nodeE t x y h ra l))), (1, .c (.ptr 4 0 0)), (2, .c (.int .i64 (F.far (F.atR l t).2.1 (F.atR l t).2.2.1 x y))), (0, .c (.int .i64 (F.apart (F.atR l t).2.2.2.1 h))), (0, .c (.int .i64 2))], [.inp 2 l, .blk [.int .i64 i, .int .i64 st, .int .i64 t, .int .i64 x, .int .i64 y, .int .i64 sx, .int .i64 sy, .int .i64 h, .int .i64 r, .int .i64 ra, .int .i64 c, .int .i64 hi, .int .i64 mi] 25, .arr 2 ([(0, 0, 0, 0, 30, 0)]) 92, .blk [.int .i64 i, .int .i64 st, .int .i64 t, .int .i64 x, .int .i64 y, .int .i64 sx, .int .i64 sy, .int .i64 h, .int .i64 r, .int .i64 ra, .int .i64 0, .int .i64 hi, .int .i64 mi] 25, .blk [.int .i64 ((F.atR l t).1), .int .i64 ((F.atR l t).2.1), .int .i64 ((F.atR l t).2.2.1), .int .i64 ((F.atR l t).2.2.2.1), .int .i64 ((F.atR l t).2.2.2.2.1), .int .i64 ((F.atR l t).2.2.2.2.2)] 92]⟩)) (
    cond (decide (ra ≤ (F.atR l t).2.2.2.2.1)) (
     .need (i64ok ((F.atR l t).2.2.2.2.1 - ra)) (
     .need (i64ok ((F.atR l t).2.2.2.2.1 - ra)) (
     .need (i64ok (((F.atR l t).2.2.2.2.1 - ra) * ((F.atR l t).2.2.2.2.1 - ra))) (
     cond (decide (F.far (F.atR l t).2.1 (F.atR l t).2.2.1 x y ≤ ((F.atR l t).2.2.2.2.1 - ra) * ((F.atR l t).2.2.2.2.1 - ra))) (
      .need (i64ok ((F.atR l t).2.2.2.2.2 - 100)) (
      cond (decide (F.apart (F.atR l t).2.2.2.1 h ≤ (F.atR l t).2.2.2.2.2 - 100)) (
       .ret (.cut (regAt Try.f12 20) ⟨tmG 178 [(2, .c (.ptr 1 0 0)), (5, .c (.int .i64 (F.cmpR t x y h ra l))), (0, .c (.int .i64 (F.nodeE t x y h ra l))), (0, .c (.int .i64 (F.exS t x y h ra l))), (0, .c (.int .i64 (F.exH t x y h ra l))), (0, .c (.int .i64 (F.nodeE t x y h ra l))), (1, .c (.ptr 4 0 0)), (2, .c (.int .i64 (F.far (F.atR l t).2.1 (F.atR l t).2.2.1 x y))), (0, .c (.int .i64 (F.apart (F.atR l t).2.2.2.1 h))), (0, .c (.int .i64 0))], [.inp 2 l, .blk [.int .i64 i, .int .i64 st, .int .i64 t, .int .i64 x, .int .i64 y, .int .i64 sx, .int .i64 sy, .int .i64 h, .int .i64 r, .int .i64 ra, .int .i64 c, .int .i64 hi, .int .i64 mi] 25, .arr 2 ([(0, 0, 0, 0, 30, 0)]) 92, .blk [.int .i64 i, .int .i64 st, .int .i64 t, .int .i64 x, .int .i64 y, .int .i64 sx, .int .i64 sy, .int .i64 h, .int .i64 r, .int .i64 ra, .int .i64 0, .int .i64 hi, .int .i64 mi] 25, .blk [.int .i64 ((F.atR l t).1), .int .i64 ((F.atR l t).2.1), .int .i64 ((F.atR l t).2.2.1), .int .i64 ((F.atR l t).2.2.2.1), .int .i64 ((F.atR l t).2.2.2.2.1), .int .i64 ((F.atR l t).2.2.2.2.2)] 92]⟩)) (
       .ret (.cut (regAt Try.f12 20) ⟨tmG 178 [(2, .c (.ptr 1 0 0)), (5, .c (.int .i64 (F.cmpR t x y h ra l))), (0, .c (.int .i64 (F.nodeE t x y h ra l))), (0, .c (.int .i64 (F.exS t x y h ra l))), (0, .c (.int .i64 (F.exH t x y h ra l))), (0, .c (.int .i64 (F.nodeE t x y h ra l))), (1, .c (.ptr 4 0 0)), (2, .c (.int .i64 (F.far (F.atR l t).2.1 (F.atR l t).2.2.1 x y))), (0, .c (.int .i64 (F.apart (F.atR l t).2.2.2.1 h))), (0, .c (.int .i64 1))], [.inp 2 l, .blk [.int .i64 i, .int .i64 st, .int .i64 t, .int .i64 x, .int .i64 y, .int .i64 sx, .int .i64 sy, .int .i64 h, .int .i64 r, .int .i64 ra, .int .i64 c, .int .i64 hi, .int .i64 mi] 25, .arr 2 ([(0, 0, 0, 0, 30, 0)]) 92, .blk [.int .i64 i, .int .i64 st, .int .i64 t, .int .i64 x, .int .i64 y, .int .i64 sx, .int .i64 sy, .int .i64 h, .int .i64 r, .int .i64 ra, .int .i64 0, .int .i64 hi, .int .i64 mi] 25, .blk [.int .i64 ((F.atR l t).1), .int .i64 ((F.atR l t).2.1), .int .i64 ((F.atR l t).2.2.1), .int .i64 ((F.atR l t).2.2.2.1), .int .i64 ((F.atR l t).2.2.2.2.1), .int .i64 ((F.atR l t).2.2.2.2.2)] 92]⟩)))) (
      .ret (.cut (regAt Try.f12 20) ⟨tmG 178 [(2, .c (.ptr 1 0 0)), (5, .c (.int .i64 (F.cmpR t x y h ra l))), (0, .c (.int .i64 (F.nodeE t x y h ra l))), (0, .c (.int .i64 (F.exS t x y h ra l))), (0, .c (.int .i64 (F.exH t x y h ra l))), (0, .c (.int .i64 (F.nodeE t x y h ra l))), (1, .c (.ptr 4 0 0)), (2, .c (.int .i64 (F.far (F.atR l t).2.1 (F.atR l t).2.2.1 x y))), (0, .c (.int .i64 (F.apart (F.atR l t).2.2.2.1 h))), (0, .c (.int .i64 1))], [.inp 2 l, .blk [.int .i64 i, .int .i64 st, .int .i64 t, .int .i64 x, .int .i64 y, .int .i64 sx, .int .i64 sy, .int .i64 h, .int .i64 r, .int .i64 ra, .int .i64 c, .int .i64 hi, .int .i64 mi] 25, .arr 2 ([(0, 0, 0, 0, 30, 0)]) 92, .blk [.int .i64 i, .int .i64 st, .int .i64 t, .int .i64 x, .int .i64 y, .int .i64 sx, .int .i64 sy, .int .i64 h, .int .i64 r, .int .i64 ra, .int .i64 0, .int .i64 hi, .int .i64 mi] 25, .blk [.int .i64 ((F.atR l t).1), .int .i64 ((F.atR l t).2.1), .int .i64 ((F.atR l t).2.2.1), .int .i64 ((F.atR l t).2.2.2.1), .int .i64 ((F.atR l t).2.2.2.2.1), .int .i64 ((F.atR l t).2.2.2.2.2)] 92]⟩)))))) (
     .ret (.cut (regAt Try.f12 20) ⟨tmG 178 [(2, .c (.ptr 1 0 0)), (5, .c (.int .i64 (F.cmpR t x y h ra l))), (0, .c (.int .i64 (F.nodeE t x y h ra l))), (0, .c (.int .i64 (F.exS t x y h ra l))), (0, .c (.int .i64 (F.exH t x y h ra l))), (0, .c (.int .i64 (F.nodeE t x y h ra l))), (1, .c (.ptr 4 0 0)), (2, .c (.int .i64 (F.far (F.atR l t).2.1 (F.atR l t).2.2.1 x y))), (0, .c (.int .i64 (F.apart (F.atR l t).2.2.2.1 h))), (0, .c (.int .i64 1))], [.inp 2 l, .blk [.int .i64 i, .int .i64 st, .int .i64 t, .int .i64 x, .int .i64 y, .int .i64 sx, .int .i64 sy, .int .i64 h, .int .i64 r, .int .i64 ra, .int .i64 c, .int .i64 hi, .int .i64 mi] 25, .arr 2 ([(0, 0, 0, 0, 30, 0)]) 92, .blk [.int .i64 i, .int .i64 st, .int .i64 t, .int .i64 x, .int .i64 y, .int .i64 sx, .int .i64 sy, .int .i64 h, .int .i64 r, .int .i64 ra, .int .i64 0, .int .i64 hi, .int .i64 mi] 25, .blk [.int .i64 ((F.atR l t).1), .int .i64 ((F.atR l t).2.1), .int .i64 ((F.atR l t).2.2.1), .int .i64 ((F.atR l t).2.2.2.1), .int .i64 ((F.atR l t).2.2.2.2.1), .int .i64 ((F.atR l t).2.2.2.2.2)] 92]⟩)))))))))))) (
 cond (!decide (F.atE l t = 0)) (
  cond (decide (F.nodeE t x y h ra l = F.atE l t)) (
   cond (decide (F.nodeE t x y h ra l = F.atE l t)) (
    cond (decide (F.cmpR t x y h ra l = 0)) (
     cond (decide (F.exS t x y h ra l = 0)) (
      .ret (.fin (.c (.bool (decide (F.exH t x y h ra l = 0)))) [])) (
      .ret (.fin (.c (.bool false)) []))) (
     .ret (.fin (.c (.bool false)) []))) (
    .ret (.fin (.c (.bool false)) []))) (
   .ret (.fin (.c (.bool false)) []))) (
  .need ((F.b9 (F.atR l t).2.1 ∧ (F.b9 (F.atR l t).2.2.1 ∧ (F.b9 x ∧ F.b9 y)))) (
  .need (i64ok (F.apart (F.atR l t).2.2.2.1 h)) (
  .need (i64ok ((F.atR l t).2.2.2.2.1 + ra)) (
  .need (i64ok ((F.atR l t).2.2.2.2.1 + ra)) (
  .need (i64ok (((F.atR l t).2.2.2.2.1 + ra) * ((F.atR l t).2.2.2.2.1 + ra))) (
  cond (decide (((F.atR l t).2.2.2.2.1 + ra) * ((F.atR l t).2.2.2.2.1 + ra) < F.far (F.atR l t).2.1 (F.atR l t).2.2.1 x y)) (
   .ret (.cut (regAt Try.f12 20) ⟨tmG 178 [(2, .c (.ptr 1 0 0)), (5, .c (.int .i64 (F.cmpR t x y h ra l))), (0, .c (.int .i64 (F.nodeE t x y h ra l))), (0, .c (.int .i64 (F.exS t x y h ra l))), (0, .c (.int .i64 (F.exH t x y h ra l))), (0, .c (.int .i64 (F.nodeE t x y h ra l))), (1, .c (.ptr 4 0 0)), (2, .c (.int .i64 (F.far (F.atR l t).2.1 (F.atR l t).2.2.1 x y))), (0, .c (.int .i64 (F.apart (F.atR l t).2.2.2.1 h))), (0, .c (.int .i64 2))], [.inp 2 l, .blk [.int .i64 i, .int .i64 st, .int .i64 t, .int .i64 x, .int .i64 y, .int .i64 sx, .int .i64 sy, .int .i64 h, .int .i64 r, .int .i64 ra, .int .i64 c, .int .i64 hi, .int .i64 mi] 25, .arr 2 ([(0, 0, 0, 0, 30, 0)]) 92, .blk [.int .i64 i, .int .i64 st, .int .i64 t, .int .i64 x, .int .i64 y, .int .i64 sx, .int .i64 sy, .int .i64 h, .int .i64 r, .int .i64 ra, .int .i64 0, .int .i64 hi, .int .i64 mi] 25, .blk [.int .i64 ((F.atR l t).1), .int .i64 ((F.atR l t).2.1), .int .i64 ((F.atR l t).2.2.1), .int .i64 ((F.atR l t).2.2.2.1), .int .i64 ((F.atR l t).2.2.2.2.1), .int .i64 ((F.atR l t).2.2.2.2.2)] 92]⟩)) (
   .need (i64ok ((F.atR l t).2.2.2.2.2 + 100)) (
   cond (decide ((F.atR l t).2.2.2.2.2 + 100 < F.apart (F.atR l t).2.2.2.1 h)) (
    .ret (.cut (regAt Try.f12 20) ⟨tmG 178 [(2, .c (.ptr 1 0 0)), (5, .c (.int .i64 (F.cmpR t x y h ra l))), (0, .c (.int .i64 (F.nodeE t x y h ra l))), (0, .c (.int .i64 (F.exS t x y h ra l))), (0, .c (.int .i64 (F.exH t x y h ra l))), (0, .c (.int .i64 (F.nodeE t x y h ra l))), (1, .c (.ptr 4 0 0)), (2, .c (.int .i64 (F.far (F.atR l t).2.1 (F.atR l t).2.2.1 x y))), (0, .c (.int .i64 (F.apart (F.atR l t).2.2.2.1 h))), (0, .c (.int .i64 2))], [.inp 2 l, .blk [.int .i64 i, .int .i64 st, .int .i64 t, .int .i64 x, .int .i64 y, .int .i64 sx, .int .i64 sy, .int .i64 h, .int .i64 r, .int .i64 ra, .int .i64 c, .int .i64 hi, .int .i64 mi] 25, .arr 2 ([(0, 0, 0, 0, 30, 0)]) 92, .blk [.int .i64 i, .int .i64 st, .int .i64 t, .int .i64 x, .int .i64 y, .int .i64 sx, .int .i64 sy, .int .i64 h, .int .i64 r, .int .i64 ra, .int .i64 0, .int .i64 hi, .int .i64 mi] 25, .blk [.int .i64 ((F.atR l t).1), .int .i64 ((F.atR l t).2.1), .int .i64 ((F.atR l t).2.2.1), .int .i64 ((F.atR l t).2.2.2.1), .int .i64 ((F.atR l t).2.2.2.2.1), .int .i64 ((F.atR l t).2.2.2.2.2)] 92]⟩)) (
    cond (decide (ra ≤ (F.atR l t).2.2.2.2.1)) (
     .need (i64ok ((F.atR l t).2.2.2.2.1 - ra)) (
     .need (i64ok ((F.atR l t).2.2.2.2.1 - ra)) (
     .need (i64ok (((F.atR l t).2.2.2.2.1 - ra) * ((F.atR l t).2.2.2.2.1 - ra))) (
     cond (decide (F.far (F.atR l t).2.1 (F.atR l t).2.2.1 x y ≤ ((F.atR l t).2.2.2.2.1 - ra) * ((F.atR l t).2.2.2.2.1 - ra))) (
      .need (i64ok ((F.atR l t).2.2.2.2.2 - 100)) (
      cond (decide (F.apart (F.atR l t).2.2.2.1 h ≤ (F.atR l t).2.2.2.2.2 - 100)) (
       .ret (.cut (regAt Try.f12 20) ⟨tmG 178 [(2, .c (.ptr 1 0 0)), (5, .c (.int .i64 (F.cmpR t x y h ra l))), (0, .c (.int .i64 (F.nodeE t x y h ra l))), (0, .c (.int .i64 (F.exS t x y h ra l))), (0, .c (.int .i64 (F.exH t x y h ra l))), (0, .c (.int .i64 (F.nodeE t x y h ra l))), (1, .c (.ptr 4 0 0)), (2, .c (.int .i64 (F.far (F.atR l t).2.1 (F.atR l t).2.2.1 x y))), (0, .c (.int .i64 (F.apart (F.atR l t).2.2.2.1 h))), (0, .c (.int .i64 0))], [.inp 2 l, .blk [.int .i64 i, .int .i64 st, .int .i64 t, .int .i64 x, .int .i64 y, .int .i64 sx, .int .i64 sy, .int .i64 h, .int .i64 r, .int .i64 ra, .int .i64 c, .int .i64 hi, .int .i64 mi] 25, .arr 2 ([(0, 0, 0, 0, 30, 0)]) 92, .blk [.int .i64 i, .int .i64 st, .int .i64 t, .int .i64 x, .int .i64 y, .int .i64 sx, .int .i64 sy, .int .i64 h, .int .i64 r, .int .i64 ra, .int .i64 0, .int .i64 hi, .int .i64 mi] 25, .blk [.int .i64 ((F.atR l t).1), .int .i64 ((F.atR l t).2.1), .int .i64 ((F.atR l t).2.2.1), .int .i64 ((F.atR l t).2.2.2.1), .int .i64 ((F.atR l t).2.2.2.2.1), .int .i64 ((F.atR l t).2.2.2.2.2)] 92]⟩)) (
       .ret (.cut (regAt Try.f12 20) ⟨tmG 178 [(2, .c (.ptr 1 0 0)), (5, .c (.int .i64 (F.cmpR t x y h ra l))), (0, .c (.int .i64 (F.nodeE t x y h ra l))), (0, .c (.int .i64 (F.exS t x y h ra l))), (0, .c (.int .i64 (F.exH t x y h ra l))), (0, .c (.int .i64 (F.nodeE t x y h ra l))), (1, .c (.ptr 4 0 0)), (2, .c (.int .i64 (F.far (F.atR l t).2.1 (F.atR l t).2.2.1 x y))), (0, .c (.int .i64 (F.apart (F.atR l t).2.2.2.1 h))), (0, .c (.int .i64 1))], [.inp 2 l, .blk [.int .i64 i, .int .i64 st, .int .i64 t, .int .i64 x, .int .i64 y, .int .i64 sx, .int .i64 sy, .int .i64 h, .int .i64 r, .int .i64 ra, .int .i64 c, .int .i64 hi, .int .i64 mi] 25, .arr 2 ([(0, 0, 0, 0, 30, 0)]) 92, .blk [.int .i64 i, .int .i64 st, .int .i64 t, .int .i64 x, .int .i64 y, .int .i64 sx, .int .i64 sy, .int .i64 h, .int .i64 r, .int .i64 ra, .int .i64 0, .int .i64 hi, .int .i64 mi] 25, .blk [.int .i64 ((F.atR l t).1), .int .i64 ((F.atR l t).2.1), .int .i64 ((F.atR l t).2.2.1), .int .i64 ((F.atR l t).2.2.2.1), .int .i64 ((F.atR l t).2.2.2.2.1), .int .i64 ((F.atR l t).2.2.2.2.2)] 92]⟩)))) (
      .ret (.cut (regAt Try.f12 20) ⟨tmG 178 [(2, .c (.ptr 1 0 0)), (5, .c (.int .i64 (F.cmpR t x y h ra l))), (0, .c (.int .i64 (F.nodeE t x y h ra l))), (0, .c (.int .i64 (F.exS t x y h ra l))), (0, .c (.int .i64 (F.exH t x y h ra l))), (0, .c (.int .i64 (F.nodeE t x y h ra l))), (1, .c (.ptr 4 0 0)), (2, .c (.int .i64 (F.far (F.atR l t).2.1 (F.atR l t).2.2.1 x y))), (0, .c (.int .i64 (F.apart (F.atR l t).2.2.2.1 h))), (0, .c (.int .i64 1))], [.inp 2 l, .blk [.int .i64 i, .int .i64 st, .int .i64 t, .int .i64 x, .int .i64 y, .int .i64 sx, .int .i64 sy, .int .i64 h, .int .i64 r, .int .i64 ra, .int .i64 c, .int .i64 hi, .int .i64 mi] 25, .arr 2 ([(0, 0, 0, 0, 30, 0)]) 92, .blk [.int .i64 i, .int .i64 st, .int .i64 t, .int .i64 x, .int .i64 y, .int .i64 sx, .int .i64 sy, .int .i64 h, .int .i64 r, .int .i64 ra, .int .i64 0, .int .i64 hi, .int .i64 mi] 25, .blk [.int .i64 ((F.atR l t).1), .int .i64 ((F.atR l t).2.1), .int .i64 ((F.atR l t).2.2.1), .int .i64 ((F.atR l t).2.2.2.1), .int .i64 ((F.atR l t).2.2.2.2.1), .int .i64 ((F.atR l t).2.2.2.2.2)] 92]⟩)))))) (
     .ret (.cut (regAt Try.f12 20) ⟨tmG 178 [(2, .c (.ptr 1 0 0)), (5, .c (.int .i64 (F.cmpR t x y h ra l))), (0, .c (.int .i64 (F.nodeE t x y h ra l))), (0, .c (.int .i64 (F.exS t x y h ra l))), (0, .c (.int .i64 (F.exH t x y h ra l))), (0, .c (.int .i64 (F.nodeE t x y h ra l))), (1, .c (.ptr 4 0 0)), (2, .c (.int .i64 (F.far (F.atR l t).2.1 (F.atR l t).2.2.1 x y))), (0, .c (.int .i64 (F.apart (F.atR l t).2.2.2.1 h))), (0, .c (.int .i64 1))], [.inp 2 l, .blk [.int .i64 i, .int .i64 st, .int .i64 t, .int .i64 x, .int .i64 y, .int .i64 sx, .int .i64 sy, .int .i64 h, .int .i64 r, .int .i64 ra, .int .i64 c, .int .i64 hi, .int .i64 mi] 25, .arr 2 ([(0, 0, 0, 0, 30, 0)]) 92, .blk [.int .i64 i, .int .i64 st, .int .i64 t, .int .i64 x, .int .i64 y, .int .i64 sx, .int .i64 sy, .int .i64 h, .int .i64 r, .int .i64 ra, .int .i64 0, .int .i64 hi, .int .i64 mi] 25, .blk [.int .i64 ((F.atR l t).1), .int .i64 ((F.atR l t).2.1), .int .i64 ((F.atR l t).2.2.1), .int .i64 ((F.atR l t).2.2.2.1), .int .i64 ((F.atR l t).2.2.2.2.1), .int .i64 ((F.atR l t).2.2.2.2.2)] 92]⟩)))))))))))))))) := by kernel_rfl


noncomputable def st_cclaw_r20 (l : List (Int × Int × Int × Int × Int × Int)) (l_t : Bool) (i st t x y sx sy h r ra c hi mi : Int) (cm sd hg D a w n1 n2 n3 n4 n5 n6 : Int) : St cod := ⟨tmG 178 [(2, .c (.ptr 1 0 0)), (5, .c (.int .i64 cm)), (0, .c (.int .i64 0)), (0, .c (.int .i64 sd)), (0, .c (.int .i64 hg)), (0, .c (.int .i64 0)), (1, .c (.ptr 4 0 0)), (2, .c (.int .i64 D)), (0, .c (.int .i64 a)), (0, .c (.int .i64 w))], ([.inp 2 l, .blk [.int .i64 i, .int .i64 st, .int .i64 t, .int .i64 x, .int .i64 y, .int .i64 sx, .int .i64 sy, .int .i64 h, .int .i64 r, .int .i64 ra, .int .i64 c, .int .i64 hi, .int .i64 mi] 25, .arr 2 [(0, 0, 0, 0, 30, 0)] 92, .blk [.int .i64 i, .int .i64 st, .int .i64 t, .int .i64 x, .int .i64 y, .int .i64 sx, .int .i64 sy, .int .i64 h, .int .i64 r, .int .i64 ra, .int .i64 0, .int .i64 hi, .int .i64 mi] 25, .blk [.int .i64 n1, .int .i64 n2, .int .i64 n3, .int .i64 n4, .int .i64 n5, .int .i64 n6] 92] : Heap cod)⟩


theorem cclaw_tr20 (l : List (Int × Int × Int × Int × Int × Int)) (l_t : Bool) (i st t x y sx sy h r ra c hi mi : Int) (cm sd hg D a w n1 n2 n3 n4 n5 n6 : Int) : symF C_excess cuts_cclaw_r20 Try.f12.results.toList 1 400 (regAt Try.f12 20) (st_cclaw_r20 l l_t i st t x y sx sy h r ra c hi mi cm sd hg D a w n1 n2 n3 n4 n5 n6) =
.need (i64ok (sd + n5)) (
.need (i64ok (sd + n5 + ra)) (
 cond (decide (sd < 0)) (
 .ret (.fin (.c (.bool false)) [])) (
 cond (decide (0 < sd)) (
  .need (i64ok ((sd + n5 + ra) * (sd + n5 + ra))) (
  cond (decide (D < (sd + n5 + ra) * (sd + n5 + ra))) (
   .ret (.fin (.c (.bool false)) [])) (
   .need (i64ok (sd + n5 + ra + 1)) (
   .need (i64ok (sd + n5 + ra + 1)) (
   .need (i64ok ((sd + n5 + ra + 1) * (sd + n5 + ra + 1))) (
   cond (decide ((sd + n5 + ra + 1) * (sd + n5 + ra + 1) ≤ D)) (
    .ret (.fin (.c (.bool false)) [])) (
    cond (decide (cm = w)) (
     .need (i64ok (a - n6)) (
     .need (i64ok (a - n6 - 100)) (
     .ret (.fin (.c (.bool (decide (hg = max (a - n6 - 100) 0)))) [])))) (
     .ret (.fin (.c (.bool false)) []))))))))) (
  .need (i64ok (sd + n5 + ra + 1)) (
  .need (i64ok (sd + n5 + ra + 1)) (
  .need (i64ok ((sd + n5 + ra + 1) * (sd + n5 + ra + 1))) (
  cond (decide ((sd + n5 + ra + 1) * (sd + n5 + ra + 1) ≤ D)) (
   .ret (.fin (.c (.bool false)) [])) (
   cond (decide (cm = w)) (
    .need (i64ok (a - n6)) (
    .need (i64ok (a - n6 - 100)) (
    .ret (.fin (.c (.bool (decide (hg = max (a - n6 - 100) 0)))) [])))) (
    .ret (.fin (.c (.bool false)) [])))))))))) := by kernel_rfl



theorem far_comm (x y u v : Int) : F.far u v x y = F.far x y u v := by
  unfold F.far
  rw [show u - x = -(x - u) by omega, show v - y = -(y - v) by omega, Int.neg_mul_neg, Int.neg_mul_neg]
theorem apart_max (a b : Int) : F.apart a b = max (b - a) (a - b) := by
  unfold F.apart
  split <;> omega
theorem cclaw_end (l : List F.Nd) (l_t : Bool) (i st t x y sx sy h r ra c hi mi : Int) (b0 : Base) (hb : b0.n = 1) (D a w n1 n2 n3 n4 n5 n6 rt : Int) (hra : 0 ≤ ra ∧ ra ≤ 4000000) (h5 : 0 ≤ n5 ∧ n5 ≤ 1000000) (h6 : 0 ≤ n6 ∧ n6 ≤ 60000) (ha : 0 ≤ a ∧ a ≤ 100000) (h0 : 0 ≤ rt) (h1 : rt ≤ 100000000) (h2 : rt * rt ≤ D) (h3 : D < (rt + 1) * (rt + 1)) :
    Sym.Runs Try.prog b0 (regAt Try.f12 20) (st_cclaw_r20 l l_t i st t x y sx sy h r ra c hi mi w (max 0 (rt - n5 - ra)) (max 0 (a - n6 - 100)) D a w n1 n2 n3 n4 n5 n6) (Sym.Ends Try.prog Try.f12 1 (.c (.bool true)) []) := by
  refine Runs.go (cfg := C_excess) L_excess_ok mixed cuts_cclaw_r20 400 hb (cclaw_tr20 l l_t i st t x y sx sy h r ra c hi mi w (max 0 (rt - n5 - ra)) (max 0 (a - n6 - 100)) D a w n1 n2 n3 n4 n5 n6) ?_
  rw [Int.max_comm (a - n6 - 100) 0]
  have q3 := sq_bd (x := n5 + ra + 1) (a := 10000000) (by omega)
  have q4 := sq_bd (x := rt) (a := 100000000) (by omega)
  have q5 := sq_bd (x := rt + 1) (a := 200000000) (by omega)
  by_cases c1 : rt - n5 - ra ≤ 0
  · have e : max 0 (rt - n5 - ra) = 0 := by omega
    have m1 : (rt + 1) * (rt + 1) ≤ (n5 + ra + 1) * (n5 + ra + 1) := Int.mul_le_mul (by omega) (by omega) (by omega) (by omega)
    have z1 : (0 : Int) + n5 + ra + 1 = n5 + ra + 1 := by omega
    rw [e]
    simp only [T.wp, T.wp_cond, Aft, Int.ofNat_eq_natCast, decide_eq_true_eq, and_true, true_and, Nat.zero_add, Bool.not_eq_true', decide_eq_false_iff_not, z1, Int.lt_irrefl, if_false, if_true]
    have c2 : ¬ (n5 + ra + 1) * (n5 + ra + 1) ≤ D := by omega
    simp only [c2, if_false]
    (repeat (refine ⟨(by first | rfl | trivial | assumption | omega | (unfold i64ok; omega) | (simp only [List.length_cons, List.length_nil]; omega) | exact ⟨by omega, trivial⟩), ?_⟩))
    all_goals (first | trivial | omega | rfl | assumption | (unfold i64ok; omega) | exact ⟨rfl, rfl⟩ | exact ⟨trivial, rfl⟩)
  · have e : max 0 (rt - n5 - ra) = rt - n5 - ra := by omega
    have z1 : rt - n5 - ra + n5 + ra = rt := by omega
    rw [e]
    have c3 : ¬ rt - n5 - ra < 0 := by omega
    have c4 : 0 < rt - n5 - ra := by omega
    have c5 : ¬ D < rt * rt := by omega
    have c6 : ¬ (rt + 1) * (rt + 1) ≤ D := by omega
    simp only [T.wp, T.wp_cond, Aft, Int.ofNat_eq_natCast, decide_eq_true_eq, and_true, true_and, Nat.zero_add, Bool.not_eq_true', decide_eq_false_iff_not, z1, c3, c4, c5, c6, if_false, if_true]
    (repeat (refine ⟨(by first | rfl | trivial | assumption | omega | (unfold i64ok; omega) | (simp only [List.length_cons, List.length_nil]; omega) | exact ⟨by omega, trivial⟩), ?_⟩))
    all_goals (first | trivial | omega | rfl | assumption | (unfold i64ok; omega) | exact ⟨rfl, rfl⟩ | exact ⟨trivial, rfl⟩)
theorem cclaw_run (l : List (Int × Int × Int × Int × Int × Int)) (l_t : Bool) (i st t x y sx sy h r ra c hi mi : Int) (b0 : Base) (hb : b0.n = 1)  : Sym.Runs Try.prog b0 [.code (codeOf Try.f12)] ⟨argsS Try.f12 [.agg [.int .i64 i, .int .i64 st, .int .i64 t, .int .i64 x, .int .i64 y, .int .i64 sx, .int .i64 sy, .int .i64 h, .int .i64 r, .int .i64 ra, .int .i64 c, .int .i64 hi, .int .i64 mi], .c (.slc 0 0 (List.length l) l_t)], ([.inp 2 l] : Heap cod)⟩ (Sym.Ends Try.prog Try.f12 1 (.c (.bool true)) []) := by
  refine Runs.go (cfg := C_excess) L_excess_ok mixed cuts_cclaw 400 hb (cclaw_t0 l l_t i st t x y sx sy h r ra c hi mi) ?_
  by_cases e : F.nodeE t x y h ra l = 0
  · obtain ⟨k1, k2, k3⟩ := nodeE_zero e
    obtain ⟨_, ⟨q1, q2⟩, q3, q4, _⟩ := tpart_zero k1
    obtain ⟨⟨p1, p2⟩, p3, p4, p5⟩ := atR_bd l t
    have hS : F.exS t x y h ra l = max 0 (F.root (F.far x y (F.atR l t).2.1 (F.atR l t).2.2.1) - (F.atR l t).2.2.2.2.1 - ra) := by unfold F.exS; rw [if_pos e]
    have hH : F.exH t x y h ra l = max 0 (max (h - (F.atR l t).2.2.2.1) ((F.atR l t).2.2.2.1 - h) - (F.atR l t).2.2.2.2.2 - 100) := by unfold F.exH; rw [if_pos e]
    have hC : F.cmpR t x y h ra l = F.cmpC x y h ra (F.atR l t).2.1 (F.atR l t).2.2.1 (F.atR l t).2.2.2.1 (F.atR l t).2.2.2.2.1 (F.atR l t).2.2.2.2.2 := by unfold F.cmpR; rw [if_pos e]
    simp only [T.wp, T.wp_cond, Aft, Int.ofNat_eq_natCast, decide_eq_true_eq, and_true, true_and, Nat.zero_add, Bool.not_eq_true', decide_eq_false_iff_not, k1, k3, e, not_true_eq_false, if_false, if_true]
    clear k1 k2 k3 e
    generalize F.exS t x y h ra l = vS at *
    generalize F.exH t x y h ra l = vH at *
    generalize F.cmpR t x y h ra l = vC at *
    generalize F.atR l t = n at *
    obtain ⟨n1, n2, n3, n4, n5, n6⟩ := n
    simp only at p1 p2 p3 p4 p5 hS hH hC ⊢
    unfold F.cmpC at hC
    rw [← apart_max n4 h] at hC hH
    have hf := far_bd p1 p2 q1 q2
    rw [far_comm n2 n3 x y] at hC hS
    obtain ⟨r1, r2, r3, r4⟩ := root_spec (n := F.far n2 n3 x y) (by omega) (by omega)
    have ha : 0 ≤ F.apart n4 h ∧ F.apart n4 h ≤ 100000 := by rw [apart_max]; omega
    have hrt : F.root (F.far n2 n3 x y) ≤ 100000000 := by
      by_cases g : F.root (F.far n2 n3 x y) ≤ 100000000
      · exact g
      · have := Int.mul_le_mul (a := 100000001) (b := 100000001) (c := F.root (F.far n2 n3 x y)) (d := F.root (F.far n2 n3 x y)) (by omega) (by omega) (by omega) (by omega)
        omega
    have fin := fun w => cclaw_end l l_t i st t x y sx sy h r ra c hi mi b0 hb (F.far n2 n3 x y) (F.apart n4 h) w n1 n2 n3 n4 n5 n6 (F.root (F.far n2 n3 x y)) q4 p4 p5 ha r1 hrt r3 r4
    rw [← hS, ← hH] at fin
    have s1 := sq_bd (x := n5 + ra) (a := 10000000) (by omega)
    have s2 := sq_bd (x := n5 - ra) (a := 10000000) (by omega)
    have b9 : F.b9 n2 ∧ F.b9 n3 ∧ F.b9 x ∧ F.b9 y := by unfold F.b9; omega
    (repeat (refine ⟨(by first | rfl | trivial | assumption | omega | (unfold i64ok; omega) | (simp only [List.length_cons, List.length_nil]; omega) | exact ⟨by omega, trivial⟩), ?_⟩))
    generalize F.far n2 n3 x y = D at *
    generalize F.apart n4 h = a at *
    generalize (n5 + ra) * (n5 + ra) = P at *
    generalize (n5 - ra) * (n5 - ra) = Q at *
    by_cases c1 : P < D
    · rw [if_pos (Or.inl c1)] at hC
      rw [if_pos c1, hC]
      exact fin 2
    rw [if_neg c1]
    refine ⟨by unfold i64ok; omega, ?_⟩
    by_cases c2 : n6 + 100 < a
    · rw [if_pos (Or.inr c2)] at hC
      rw [if_pos c2, hC]
      exact fin 2
    rw [if_neg c2]
    rw [if_neg (by omega)] at hC
    by_cases c3 : ra ≤ n5
    rotate_left
    · rw [if_neg (by omega)] at hC
      rw [if_neg c3, hC]
      exact fin 1
    rw [if_pos c3]
    (repeat (refine ⟨(by first | rfl | trivial | assumption | omega | (unfold i64ok; omega) | (simp only [List.length_cons, List.length_nil]; omega) | exact ⟨by omega, trivial⟩), ?_⟩))
    by_cases c4 : D ≤ Q
    rotate_left
    · rw [if_neg (by omega)] at hC
      rw [if_neg c4, hC]
      exact fin 1
    rw [if_pos c4]
    (repeat (refine ⟨(by first | rfl | trivial | assumption | omega | (unfold i64ok; omega) | (simp only [List.length_cons, List.length_nil]; omega) | exact ⟨by omega, trivial⟩), ?_⟩))
    by_cases c5 : a ≤ n6 - 100
    · rw [if_pos ⟨c3, c4, c5⟩] at hC
      rw [if_pos c5, hC]
      exact fin 0
    · rw [if_neg (by omega)] at hC
      rw [if_neg c5, hC]
      exact fin 1
  · have hS : F.exS t x y h ra l = 0 := by unfold F.exS; rw [if_neg e]
    have hH : F.exH t x y h ra l = 0 := by unfold F.exH; rw [if_neg e]
    have hC : F.cmpR t x y h ra l = 0 := by unfold F.cmpR; rw [if_neg e]
    by_cases k1 : F.tpart t x y h ra 0 = 0
    · have e2 : F.nodeE t x y h ra l = F.atE l t := by unfold F.nodeE; rw [if_pos k1]
      have k3 : ¬ F.atE l t = 0 := by rw [← e2]; exact e
      simp only [T.wp, T.wp_cond, Aft, Int.ofNat_eq_natCast, decide_eq_true_eq, and_true, true_and, Nat.zero_add, Bool.not_eq_true', decide_eq_false_iff_not, k1, k3, e2, hS, hH, hC, not_true_eq_false, not_false_eq_true, if_false, if_true]
      (repeat (refine ⟨(by first | rfl | trivial | assumption | omega | (unfold i64ok; omega) | (simp only [List.length_cons, List.length_nil]; omega) | exact ⟨by omega, trivial⟩), ?_⟩))
      all_goals (first | trivial | omega | rfl | assumption | (unfold i64ok; omega) | exact ⟨rfl, rfl⟩ | exact ⟨trivial, rfl⟩)
    · have e2 : F.nodeE t x y h ra l = F.tpart t x y h ra 0 := by
        unfold F.nodeE
        rw [if_neg k1]
        unfold F.tpart at k1 ⊢
        split at k1
        · exact absurd rfl k1
        · rename_i hc
          rw [if_neg hc]
      simp only [T.wp, T.wp_cond, Aft, Int.ofNat_eq_natCast, decide_eq_true_eq, and_true, true_and, Nat.zero_add, Bool.not_eq_true', decide_eq_false_iff_not, k1, e2, hS, hH, hC, not_true_eq_false, not_false_eq_true, if_false, if_true]
      (repeat (refine ⟨(by first | rfl | trivial | assumption | omega | (unfold i64ok; omega) | (simp only [List.length_cons, List.length_nil]; omega) | exact ⟨by omega, trivial⟩), ?_⟩))
      all_goals (first | trivial | omega | rfl | assumption | (unfold i64ok; omega) | exact ⟨rfl, rfl⟩ | exact ⟨trivial, rfl⟩)



noncomputable def s_cclaw : Summ cod := fun args H => match args, H with
  | [.agg [.int .i64 i, .int .i64 st, .int .i64 t, .int .i64 x, .int .i64 y, .int .i64 sx, .int .i64 sy, .int .i64 h, .int .i64 r, .int .i64 ra, .int .i64 c, .int .i64 hi, .int .i64 mi], .c (.slc 0 l_i l_n l_t)], [o0] => (match o0.asInp 2 with | some l => .need ((l_i = 0 ∧ l_n = List.length l)) (.ret (.c (.bool true), [])) | none => .fail)
  | _, _ => .fail


theorem cclaw_sound : Sound Try.prog cod 12 s_cclaw := sound_runs (cfg := C_excess) L_excess_ok mixed Try.func12 rfl rfl _ fun args H r news hg b0 hb => by
  unfold s_cclaw at hg
  split at hg
  · skip
    split at hg
    · rename_i l hx0
      cases asInp_spec hx0
      simp only [T.gives, T.wp, Prod.mk.injEq] at hg
      obtain ⟨⟨rfl, rfl⟩, rfl, rfl⟩ := hg
      exact cclaw_run _ _ _ _ _ _ _ _ _ _ _ _ _ _ _ b0 hb 
    · exact hg.elim
  · exact hg.elim

noncomputable def L_cclaw : Sums cod := (12, .p s_cclaw) :: L_excess
noncomputable def C_cclaw : Cfg cod := mkC L_cclaw

theorem L_cclaw_ok : Snd Try.prog cod L_cclaw := .cons cclaw_sound L_excess_ok


end
end Go.Proofs.Ythljcjighomgkaa
