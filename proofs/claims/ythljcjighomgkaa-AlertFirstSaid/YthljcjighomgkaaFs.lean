/- Part of a claim: lemmas on the way to its theorem; each states its own conditions. -/
import Derived.Test.YthljcjighomgkaaFq
namespace Go.Proofs.Ythljcjighomgkaa
open Sym Go.RowKit
noncomputable section
set_option maxRecDepth 100000
set_option maxHeartbeats 4000000



def cuts_allaw : Cuts := [(100013, [21, 19, 22, 20, 7, 5, 6, 8, 4, 3], 5), (23, [25, 22, 21, 24, 20, 19, 26, 7, 27, 5, 6, 8, 4, 3, 28], 6)]
def cuts_allaw_r13 : Cuts := [(23, [25, 22, 21, 24, 20, 19, 26, 7, 27, 5, 6, 8, 4, 3, 28], 6)]

theorem allaw_t0 (lat ver : Int) (sec : Int) (acc : Int) (cl : Int) (i st t x y sx sy h r ra c hi mi sl lt lx ly lh lc le i2 st2 t2 x2 y2 sx2 sy2 h2 r2 ra2 c2 hi2 mi2 sl2 lt2 lx2 ly2 lh2 lc2 le2 : Int) : symF C_close cuts_allaw Try.f9.results.toList 0 400 [.code (codeOf Try.f9)] ⟨argsS Try.f9 [.agg [.int .i64 i, .int .i64 st, .int .i64 t, .int .i64 x, .int .i64 y, .int .i64 sx, .int .i64 sy, .int .i64 h, .int .i64 r, .int .i64 ra, .int .i64 c, .int .i64 hi, .int .i64 mi, .int .i64 sl, .int .i64 lt, .int .i64 lx, .int .i64 ly, .int .i64 lh, .int .i64 lc, .int .i64 le], .agg [.int .i64 i2, .int .i64 st2, .int .i64 t2, .int .i64 x2, .int .i64 y2, .int .i64 sx2, .int .i64 sy2, .int .i64 h2, .int .i64 r2, .int .i64 ra2, .int .i64 c2, .int .i64 hi2, .int .i64 mi2, .int .i64 sl2, .int .i64 lt2, .int .i64 lx2, .int .i64 ly2, .int .i64 lh2, .int .i64 lc2, .int .i64 le2], .agg [.int .i64 lat, .int .i64 ver], .c (.int .i64 sec), .c (.int .i64 acc), .c (.int .i64 cl)], ([] : Heap cod)⟩ =
.need (((0 : Int) < 1 ∧ i64ok sec)) (
.need ((41 : Int) ≠ 0) (
.ret (.cut (regAt Try.f9 13) ⟨tmG 203 [(3, .c (.int .i64 (Int.tmod (sec / 1) 41))), (0, .c (.int .i64 acc)), (0, .c (.int .i64 cl)), (0, .c (.ptr 0 0 0)), (0, .c (.ptr 1 0 0)), (0, .c (.ptr 2 0 0)), (10, .c (.int .i64 ((F.sea     (F.alE i st t x y sx sy h r ra c hi mi sl lt lx ly lh lc le i2 st2 t2 x2 y2 sx2 sy2 h2 r2 ra2 c2 hi2 mi2 sl2 lt2 lx2       ly2 lh2 lc2 le2 lat ver (Int.tmod (sec / 1) 41) acc cl)     (F.hit F.tstF i st t x y sx sy h r ra c hi mi sl lt lx ly lh lc le i2 st2 t2 x2 y2 sx2 sy2 h2 r2 ra2 c2 hi2 mi2 sl2       lt2 lx2 ly2 lh2 lc2 le2 lat ver acc cl)     (max t t2) (Int.tmod (sec / 1) 41)).1))), (0, .c (.int .i64 ((F.sea     (F.alE i st t x y sx sy h r ra c hi mi sl lt lx ly lh lc le i2 st2 t2 x2 y2 sx2 sy2 h2 r2 ra2 c2 hi2 mi2 sl2 lt2 lx2       ly2 lh2 lc2 le2 lat ver (Int.tmod (sec / 1) 41) acc cl)     (F.hit F.tstF i st t x y sx sy h r ra c hi mi sl lt lx ly lh lc le i2 st2 t2 x2 y2 sx2 sy2 h2 r2 ra2 c2 hi2 mi2 sl2       lt2 lx2 ly2 lh2 lc2 le2 lat ver acc cl)     (max t t2) (Int.tmod (sec / 1) 41)).2))), (0, .c (.int .i64 ((F.sea     (F.alE i st t x y sx sy h r ra c hi mi sl lt lx ly lh lc le i2 st2 t2 x2 y2 sx2 sy2 h2 r2 ra2 c2 hi2 mi2 sl2 lt2 lx2       ly2 lh2 lc2 le2 lat ver (Int.tmod (sec / 1) 41) acc cl)     (F.hit F.tstC i st t x y sx sy h r ra c hi mi sl lt lx ly lh lc le i2 st2 t2 x2 y2 sx2 sy2 h2 r2 ra2 c2 hi2 mi2 sl2       lt2 lx2 ly2 lh2 lc2 le2 lat ver acc cl)     (max t t2) (Int.tmod (sec / 1) 41)).1))), (0, .c (.int .i64 ((F.sea     (F.alE i st t x y sx sy h r ra c hi mi sl lt lx ly lh lc le i2 st2 t2 x2 y2 sx2 sy2 h2 r2 ra2 c2 hi2 mi2 sl2 lt2 lx2       ly2 lh2 lc2 le2 lat ver (Int.tmod (sec / 1) 41) acc cl)     (F.hit F.tstC i st t x y sx sy h r ra c hi mi sl lt lx ly lh lc le i2 st2 t2 x2 y2 sx2 sy2 h2 r2 ra2 c2 hi2 mi2 sl2       lt2 lx2 ly2 lh2 lc2 le2 lat ver acc cl)     (max t t2) (Int.tmod (sec / 1) 41)).2)))], [.blk [.int .i64 i, .int .i64 st, .int .i64 t, .int .i64 x, .int .i64 y, .int .i64 sx, .int .i64 sy, .int .i64 h, .int .i64 r, .int .i64 ra, .int .i64 c, .int .i64 hi, .int .i64 mi, .int .i64 sl, .int .i64 lt, .int .i64 lx, .int .i64 ly, .int .i64 lh, .int .i64 lc, .int .i64 le] 29, .blk [.int .i64 i2, .int .i64 st2, .int .i64 t2, .int .i64 x2, .int .i64 y2, .int .i64 sx2, .int .i64 sy2, .int .i64 h2, .int .i64 r2, .int .i64 ra2, .int .i64 c2, .int .i64 hi2, .int .i64 mi2, .int .i64 sl2, .int .i64 lt2, .int .i64 lx2, .int .i64 ly2, .int .i64 lh2, .int .i64 lc2, .int .i64 le2] 29, .blk [.int .i64 lat, .int .i64 ver] 81, .blk [.int .i64 10, .int .i64 1000] 81, .blk [.int .i64 0, .int .i64 0, .int .i64 0, .int .i64 500, .int .i64 0, .int .i64 0, .int .i64 0, .int .i64 0, .int .i64 0, .int .i64 0, .int .i64 0, .int .i64 0, .int .i64 0, .int .i64 0, .int .i64 0, .int .i64 0, .int .i64 0, .int .i64 0, .int .i64 0, .int .i64 0] 29]⟩))) := by kernel_rfl


noncomputable def st_allaw_r13 (lat ver : Int) (sec : Int) (acc : Int) (cl : Int) (i st t x y sx sy h r ra c hi mi sl lt lx ly lh lc le i2 st2 t2 x2 y2 sx2 sy2 h2 r2 ra2 c2 hi2 mi2 sl2 lt2 lx2 ly2 lh2 lc2 le2 : Int) (n e m f se : Int) : St cod := ⟨tmG 203 [(3, .c (.int .i64 se)), (0, .c (.int .i64 acc)), (0, .c (.int .i64 cl)), (0, .c (.ptr 0 0 0)), (0, .c (.ptr 1 0 0)), (0, .c (.ptr 2 0 0)), (10, .c (.int .i64 n)), (0, .c (.int .i64 e)), (0, .c (.int .i64 m)), (0, .c (.int .i64 f))], [.blk [.int .i64 i, .int .i64 st, .int .i64 t, .int .i64 x, .int .i64 y, .int .i64 sx, .int .i64 sy, .int .i64 h, .int .i64 r, .int .i64 ra, .int .i64 c, .int .i64 hi, .int .i64 mi, .int .i64 sl, .int .i64 lt, .int .i64 lx, .int .i64 ly, .int .i64 lh, .int .i64 lc, .int .i64 le] 29, .blk [.int .i64 i2, .int .i64 st2, .int .i64 t2, .int .i64 x2, .int .i64 y2, .int .i64 sx2, .int .i64 sy2, .int .i64 h2, .int .i64 r2, .int .i64 ra2, .int .i64 c2, .int .i64 hi2, .int .i64 mi2, .int .i64 sl2, .int .i64 lt2, .int .i64 lx2, .int .i64 ly2, .int .i64 lh2, .int .i64 lc2, .int .i64 le2] 29, .blk [.int .i64 lat, .int .i64 ver] 81, .blk [.int .i64 10, .int .i64 1000] 81, .blk [.int .i64 0, .int .i64 0, .int .i64 0, .int .i64 500, .int .i64 0, .int .i64 0, .int .i64 0, .int .i64 0, .int .i64 0, .int .i64 0, .int .i64 0, .int .i64 0, .int .i64 0, .int .i64 0, .int .i64 0, .int .i64 0, .int .i64 0, .int .i64 0, .int .i64 0, .int .i64 0] 29]⟩


theorem allaw_tr13 (lat ver : Int) (sec : Int) (acc : Int) (cl : Int) (i st t x y sx sy h r ra c hi mi sl lt lx ly lh lc le i2 st2 t2 x2 y2 sx2 sy2 h2 r2 ra2 c2 hi2 mi2 sl2 lt2 lx2 ly2 lh2 lc2 le2 : Int) (n e m f se : Int) : symF C_close cuts_allaw_r13 Try.f9.results.toList 0 400 (regAt Try.f9 13) (st_allaw_r13 lat ver sec acc cl i st t x y sx sy h r ra c hi mi sl lt lx ly lh lc le i2 st2 t2 x2 y2 sx2 sy2 h2 r2 ra2 c2 hi2 mi2 sl2 lt2 lx2 ly2 lh2 lc2 le2 n e m f se) =
 cond (decide (F.trackE i st t x y sx sy h r ra c hi mi sl lt lx ly lh lc le = 0)) (
 cond (decide (F.trackE i2 st2 t2 x2 y2 sx2 sy2 h2 r2 ra2 c2 hi2 mi2 sl2 lt2 lx2 ly2 lh2 lc2 le2 = 0)) (
  cond (!F.inb lat 0 1000000) (
   cond (decide (e = 4)) (
    cond (decide (f = 4)) (
     cond (decide (n = 0)) (
      .ret (.fin (.c (.bool (decide (m = 0)))) [])) (
      .ret (.fin (.c (.bool false)) []))) (
     .ret (.fin (.c (.bool false)) []))) (
    .ret (.fin (.c (.bool false)) []))) (
   cond (!F.inb ver 0 60000) (
    cond (decide (e = 4)) (
     cond (decide (f = 4)) (
      cond (decide (n = 0)) (
       .ret (.fin (.c (.bool (decide (m = 0)))) [])) (
       .ret (.fin (.c (.bool false)) []))) (
      .ret (.fin (.c (.bool false)) []))) (
     .ret (.fin (.c (.bool false)) []))) (
    cond (decide (se < 0)) (
     cond (decide (e = 4)) (
      cond (decide (f = 4)) (
       cond (decide (n = 0)) (
        .ret (.fin (.c (.bool (decide (m = 0)))) [])) (
        .ret (.fin (.c (.bool false)) []))) (
       .ret (.fin (.c (.bool false)) []))) (
      .ret (.fin (.c (.bool false)) []))) (
     cond (!F.inb acc 0 20) (
      cond (decide (e = 4)) (
       cond (decide (f = 4)) (
        cond (decide (n = 0)) (
         .ret (.fin (.c (.bool (decide (m = 0)))) [])) (
         .ret (.fin (.c (.bool false)) []))) (
        .ret (.fin (.c (.bool false)) []))) (
       .ret (.fin (.c (.bool false)) []))) (
      cond (!F.inb cl 0 200) (
       cond (decide (e = 4)) (
        cond (decide (f = 4)) (
         cond (decide (n = 0)) (
          .ret (.fin (.c (.bool (decide (m = 0)))) [])) (
          .ret (.fin (.c (.bool false)) []))) (
         .ret (.fin (.c (.bool false)) []))) (
        .ret (.fin (.c (.bool false)) []))) (
       cond (!decide (F.trackE i2 st2 t2 x2 y2 sx2 sy2 h2 r2 ra2 c2 hi2 mi2 sl2 lt2 lx2 ly2 lh2 lc2 le2 = 0)) (
        cond (decide (e = F.trackE i2 st2 t2 x2 y2 sx2 sy2 h2 r2 ra2 c2 hi2 mi2 sl2 lt2 lx2 ly2 lh2 lc2 le2)) (
         cond (decide (f = F.trackE i2 st2 t2 x2 y2 sx2 sy2 h2 r2 ra2 c2 hi2 mi2 sl2 lt2 lx2 ly2 lh2 lc2 le2)) (
          cond (decide (n = 0)) (
           .ret (.fin (.c (.bool (decide (m = 0)))) [])) (
           .ret (.fin (.c (.bool false)) []))) (
          .ret (.fin (.c (.bool false)) []))) (
         .ret (.fin (.c (.bool false)) []))) (
        .ret (.cut (cutAt Try.f9 23) ⟨tmG 197 [(3, .c (.int .i64 se)), (0, .c (.int .i64 acc)), (0, .c (.int .i64 cl)), (0, .c (.ptr 0 0 0)), (0, .c (.ptr 1 0 0)), (0, .c (.ptr 2 0 0)), (10, .c (.int .i64 n)), (0, .c (.int .i64 e)), (0, .c (.int .i64 m)), (0, .c (.int .i64 f)), (1, .c (.int .i64 (-1))), (0, .c (.int .i64 (-1))), (0, .c (.ptr 5 0 0)), (0, .c (.int .i64 (max t t2))), (0, .c (.int .i64 0))], [.blk [.int .i64 i, .int .i64 st, .int .i64 t, .int .i64 x, .int .i64 y, .int .i64 sx, .int .i64 sy, .int .i64 h, .int .i64 r, .int .i64 ra, .int .i64 c, .int .i64 hi, .int .i64 mi, .int .i64 sl, .int .i64 lt, .int .i64 lx, .int .i64 ly, .int .i64 lh, .int .i64 lc, .int .i64 le] 29, .blk [.int .i64 i2, .int .i64 st2, .int .i64 t2, .int .i64 x2, .int .i64 y2, .int .i64 sx2, .int .i64 sy2, .int .i64 h2, .int .i64 r2, .int .i64 ra2, .int .i64 c2, .int .i64 hi2, .int .i64 mi2, .int .i64 sl2, .int .i64 lt2, .int .i64 lx2, .int .i64 ly2, .int .i64 lh2, .int .i64 lc2, .int .i64 le2] 29, .blk [.int .i64 lat, .int .i64 ver] 81, .blk [.int .i64 10, .int .i64 1000] 81, .blk [.int .i64 0, .int .i64 0, .int .i64 0, .int .i64 500, .int .i64 0, .int .i64 0, .int .i64 0, .int .i64 0, .int .i64 0, .int .i64 0, .int .i64 0, .int .i64 0, .int .i64 0, .int .i64 0, .int .i64 0, .int .i64 0, .int .i64 0, .int .i64 0, .int .i64 0, .int .i64 0] 29, .blk [.int .i64 8] 31]⟩)))))))) (
  cond (!decide (F.trackE i2 st2 t2 x2 y2 sx2 sy2 h2 r2 ra2 c2 hi2 mi2 sl2 lt2 lx2 ly2 lh2 lc2 le2 = 0)) (
   cond (decide (e = F.trackE i2 st2 t2 x2 y2 sx2 sy2 h2 r2 ra2 c2 hi2 mi2 sl2 lt2 lx2 ly2 lh2 lc2 le2)) (
    cond (decide (f = F.trackE i2 st2 t2 x2 y2 sx2 sy2 h2 r2 ra2 c2 hi2 mi2 sl2 lt2 lx2 ly2 lh2 lc2 le2)) (
     cond (decide (n = 0)) (
      .ret (.fin (.c (.bool (decide (m = 0)))) [])) (
      .ret (.fin (.c (.bool false)) []))) (
     .ret (.fin (.c (.bool false)) []))) (
    .ret (.fin (.c (.bool false)) []))) (
   .ret (.cut (cutAt Try.f9 23) ⟨tmG 197 [(3, .c (.int .i64 se)), (0, .c (.int .i64 acc)), (0, .c (.int .i64 cl)), (0, .c (.ptr 0 0 0)), (0, .c (.ptr 1 0 0)), (0, .c (.ptr 2 0 0)), (10, .c (.int .i64 n)), (0, .c (.int .i64 e)), (0, .c (.int .i64 m)), (0, .c (.int .i64 f)), (1, .c (.int .i64 (-1))), (0, .c (.int .i64 (-1))), (0, .c (.ptr 5 0 0)), (0, .c (.int .i64 (max t t2))), (0, .c (.int .i64 0))], [.blk [.int .i64 i, .int .i64 st, .int .i64 t, .int .i64 x, .int .i64 y, .int .i64 sx, .int .i64 sy, .int .i64 h, .int .i64 r, .int .i64 ra, .int .i64 c, .int .i64 hi, .int .i64 mi, .int .i64 sl, .int .i64 lt, .int .i64 lx, .int .i64 ly, .int .i64 lh, .int .i64 lc, .int .i64 le] 29, .blk [.int .i64 i2, .int .i64 st2, .int .i64 t2, .int .i64 x2, .int .i64 y2, .int .i64 sx2, .int .i64 sy2, .int .i64 h2, .int .i64 r2, .int .i64 ra2, .int .i64 c2, .int .i64 hi2, .int .i64 mi2, .int .i64 sl2, .int .i64 lt2, .int .i64 lx2, .int .i64 ly2, .int .i64 lh2, .int .i64 lc2, .int .i64 le2] 29, .blk [.int .i64 lat, .int .i64 ver] 81, .blk [.int .i64 10, .int .i64 1000] 81, .blk [.int .i64 0, .int .i64 0, .int .i64 0, .int .i64 500, .int .i64 0, .int .i64 0, .int .i64 0, .int .i64 0, .int .i64 0, .int .i64 0, .int .i64 0, .int .i64 0, .int .i64 0, .int .i64 0, .int .i64 0, .int .i64 0, .int .i64 0, .int .i64 0, .int .i64 0, .int .i64 0] 29, .blk [.int .i64 8] 31]⟩)))) (
 cond (decide (F.trackE i st t x y sx sy h r ra c hi mi sl lt lx ly lh lc le = 0)) (
  cond (!F.inb lat 0 1000000) (
   cond (decide (e = 4)) (
    cond (decide (f = 4)) (
     cond (decide (n = 0)) (
      .ret (.fin (.c (.bool (decide (m = 0)))) [])) (
      .ret (.fin (.c (.bool false)) []))) (
     .ret (.fin (.c (.bool false)) []))) (
    .ret (.fin (.c (.bool false)) []))) (
   cond (!F.inb ver 0 60000) (
    cond (decide (e = 4)) (
     cond (decide (f = 4)) (
      cond (decide (n = 0)) (
       .ret (.fin (.c (.bool (decide (m = 0)))) [])) (
       .ret (.fin (.c (.bool false)) []))) (
      .ret (.fin (.c (.bool false)) []))) (
     .ret (.fin (.c (.bool false)) []))) (
    cond (decide (se < 0)) (
     cond (decide (e = 4)) (
      cond (decide (f = 4)) (
       cond (decide (n = 0)) (
        .ret (.fin (.c (.bool (decide (m = 0)))) [])) (
        .ret (.fin (.c (.bool false)) []))) (
       .ret (.fin (.c (.bool false)) []))) (
      .ret (.fin (.c (.bool false)) []))) (
     cond (!F.inb acc 0 20) (
      cond (decide (e = 4)) (
       cond (decide (f = 4)) (
        cond (decide (n = 0)) (
         .ret (.fin (.c (.bool (decide (m = 0)))) [])) (
         .ret (.fin (.c (.bool false)) []))) (
        .ret (.fin (.c (.bool false)) []))) (
       .ret (.fin (.c (.bool false)) []))) (
      cond (!F.inb cl 0 200) (
       cond (decide (e = 4)) (
        cond (decide (f = 4)) (
         cond (decide (n = 0)) (
          .ret (.fin (.c (.bool (decide (m = 0)))) [])) (
          .ret (.fin (.c (.bool false)) []))) (
         .ret (.fin (.c (.bool false)) []))) (
        .ret (.fin (.c (.bool false)) []))) (
       cond (!decide (F.trackE i st t x y sx sy h r ra c hi mi sl lt lx ly lh lc le = 0)) (
        cond (decide (e = F.trackE i st t x y sx sy h r ra c hi mi sl lt lx ly lh lc le)) (
         cond (decide (f = F.trackE i st t x y sx sy h r ra c hi mi sl lt lx ly lh lc le)) (
          cond (decide (n = 0)) (
           .ret (.fin (.c (.bool (decide (m = 0)))) [])) (
           .ret (.fin (.c (.bool false)) []))) (
          .ret (.fin (.c (.bool false)) []))) (
         .ret (.fin (.c (.bool false)) []))) (
        .ret (.cut (cutAt Try.f9 23) ⟨tmG 197 [(3, .c (.int .i64 se)), (0, .c (.int .i64 acc)), (0, .c (.int .i64 cl)), (0, .c (.ptr 0 0 0)), (0, .c (.ptr 1 0 0)), (0, .c (.ptr 2 0 0)), (10, .c (.int .i64 n)), (0, .c (.int .i64 e)), (0, .c (.int .i64 m)), (0, .c (.int .i64 f)), (1, .c (.int .i64 (-1))), (0, .c (.int .i64 (-1))), (0, .c (.ptr 5 0 0)), (0, .c (.int .i64 (max t t2))), (0, .c (.int .i64 0))], [.blk [.int .i64 i, .int .i64 st, .int .i64 t, .int .i64 x, .int .i64 y, .int .i64 sx, .int .i64 sy, .int .i64 h, .int .i64 r, .int .i64 ra, .int .i64 c, .int .i64 hi, .int .i64 mi, .int .i64 sl, .int .i64 lt, .int .i64 lx, .int .i64 ly, .int .i64 lh, .int .i64 lc, .int .i64 le] 29, .blk [.int .i64 i2, .int .i64 st2, .int .i64 t2, .int .i64 x2, .int .i64 y2, .int .i64 sx2, .int .i64 sy2, .int .i64 h2, .int .i64 r2, .int .i64 ra2, .int .i64 c2, .int .i64 hi2, .int .i64 mi2, .int .i64 sl2, .int .i64 lt2, .int .i64 lx2, .int .i64 ly2, .int .i64 lh2, .int .i64 lc2, .int .i64 le2] 29, .blk [.int .i64 lat, .int .i64 ver] 81, .blk [.int .i64 10, .int .i64 1000] 81, .blk [.int .i64 0, .int .i64 0, .int .i64 0, .int .i64 500, .int .i64 0, .int .i64 0, .int .i64 0, .int .i64 0, .int .i64 0, .int .i64 0, .int .i64 0, .int .i64 0, .int .i64 0, .int .i64 0, .int .i64 0, .int .i64 0, .int .i64 0, .int .i64 0, .int .i64 0, .int .i64 0] 29, .blk [.int .i64 8] 31]⟩)))))))) (
  cond (!decide (F.trackE i st t x y sx sy h r ra c hi mi sl lt lx ly lh lc le = 0)) (
   cond (decide (e = F.trackE i st t x y sx sy h r ra c hi mi sl lt lx ly lh lc le)) (
    cond (decide (f = F.trackE i st t x y sx sy h r ra c hi mi sl lt lx ly lh lc le)) (
     cond (decide (n = 0)) (
      .ret (.fin (.c (.bool (decide (m = 0)))) [])) (
      .ret (.fin (.c (.bool false)) []))) (
     .ret (.fin (.c (.bool false)) []))) (
    .ret (.fin (.c (.bool false)) []))) (
   .ret (.cut (cutAt Try.f9 23) ⟨tmG 197 [(3, .c (.int .i64 se)), (0, .c (.int .i64 acc)), (0, .c (.int .i64 cl)), (0, .c (.ptr 0 0 0)), (0, .c (.ptr 1 0 0)), (0, .c (.ptr 2 0 0)), (10, .c (.int .i64 n)), (0, .c (.int .i64 e)), (0, .c (.int .i64 m)), (0, .c (.int .i64 f)), (1, .c (.int .i64 (-1))), (0, .c (.int .i64 (-1))), (0, .c (.ptr 5 0 0)), (0, .c (.int .i64 (max t t2))), (0, .c (.int .i64 0))], [.blk [.int .i64 i, .int .i64 st, .int .i64 t, .int .i64 x, .int .i64 y, .int .i64 sx, .int .i64 sy, .int .i64 h, .int .i64 r, .int .i64 ra, .int .i64 c, .int .i64 hi, .int .i64 mi, .int .i64 sl, .int .i64 lt, .int .i64 lx, .int .i64 ly, .int .i64 lh, .int .i64 lc, .int .i64 le] 29, .blk [.int .i64 i2, .int .i64 st2, .int .i64 t2, .int .i64 x2, .int .i64 y2, .int .i64 sx2, .int .i64 sy2, .int .i64 h2, .int .i64 r2, .int .i64 ra2, .int .i64 c2, .int .i64 hi2, .int .i64 mi2, .int .i64 sl2, .int .i64 lt2, .int .i64 lx2, .int .i64 ly2, .int .i64 lh2, .int .i64 lc2, .int .i64 le2] 29, .blk [.int .i64 lat, .int .i64 ver] 81, .blk [.int .i64 10, .int .i64 1000] 81, .blk [.int .i64 0, .int .i64 0, .int .i64 0, .int .i64 500, .int .i64 0, .int .i64 0, .int .i64 0, .int .i64 0, .int .i64 0, .int .i64 0, .int .i64 0, .int .i64 0, .int .i64 0, .int .i64 0, .int .i64 0, .int .i64 0, .int .i64 0, .int .i64 0, .int .i64 0, .int .i64 0] 29, .blk [.int .i64 8] 31]⟩)))) := by kernel_rfl


noncomputable def st_allaw_23 (lat ver : Int) (sec : Int) (acc : Int) (cl : Int) (i st t x y sx sy h r ra c hi mi sl lt lx ly lh lc le i2 st2 t2 x2 y2 sx2 sy2 h2 r2 ra2 c2 hi2 mi2 sl2 lt2 lx2 ly2 lh2 lc2 le2 : Int) (k n e m f fi ce fr se : Int) : St cod := ⟨tmG 197 [(3, .c (.int .i64 se)), (0, .c (.int .i64 acc)), (0, .c (.int .i64 cl)), (0, .c (.ptr 0 0 0)), (0, .c (.ptr 1 0 0)), (0, .c (.ptr 2 0 0)), (10, .c (.int .i64 n)), (0, .c (.int .i64 e)), (0, .c (.int .i64 m)), (0, .c (.int .i64 f)), (1, .c (.int .i64 fi)), (0, .c (.int .i64 ce)), (0, .c (.ptr 5 0 0)), (0, .c (.int .i64 fr)), (0, .c (.int .i64 k))], [.blk [.int .i64 i, .int .i64 st, .int .i64 t, .int .i64 x, .int .i64 y, .int .i64 sx, .int .i64 sy, .int .i64 h, .int .i64 r, .int .i64 ra, .int .i64 c, .int .i64 hi, .int .i64 mi, .int .i64 sl, .int .i64 lt, .int .i64 lx, .int .i64 ly, .int .i64 lh, .int .i64 lc, .int .i64 le] 29, .blk [.int .i64 i2, .int .i64 st2, .int .i64 t2, .int .i64 x2, .int .i64 y2, .int .i64 sx2, .int .i64 sy2, .int .i64 h2, .int .i64 r2, .int .i64 ra2, .int .i64 c2, .int .i64 hi2, .int .i64 mi2, .int .i64 sl2, .int .i64 lt2, .int .i64 lx2, .int .i64 ly2, .int .i64 lh2, .int .i64 lc2, .int .i64 le2] 29, .blk [.int .i64 lat, .int .i64 ver] 81, .blk [.int .i64 10, .int .i64 1000] 81, .blk [.int .i64 0, .int .i64 0, .int .i64 0, .int .i64 500, .int .i64 0, .int .i64 0, .int .i64 0, .int .i64 0, .int .i64 0, .int .i64 0, .int .i64 0, .int .i64 0, .int .i64 0, .int .i64 0, .int .i64 0, .int .i64 0, .int .i64 0, .int .i64 0, .int .i64 0, .int .i64 0] 29, .blk [.int .i64 8] 31]⟩


theorem allaw_t23 (lat ver : Int) (sec : Int) (acc : Int) (cl : Int) (i st t x y sx sy h r ra c hi mi sl lt lx ly lh lc le i2 st2 t2 x2 y2 sx2 sy2 h2 r2 ra2 c2 hi2 mi2 sl2 lt2 lx2 ly2 lh2 lc2 le2 : Int) (k n e m f fi ce fr se : Int) : symF C_close cuts_allaw Try.f9.results.toList 0 400 (cutAt Try.f9 23) (st_allaw_23 lat ver sec acc cl i st t x y sx sy h r ra c hi mi sl lt lx ly lh lc le i2 st2 t2 x2 y2 sx2 sy2 h2 r2 ra2 c2 hi2 mi2 sl2 lt2 lx2 ly2 lh2 lc2 le2 k n e m f fi ce fr se) =
 cond (decide (k ≤ se)) (
 .need (i64ok (fr + k)) (
 .need (i64ok (fr + k)) (
 cond (!decide (F.predE i st t x y sx sy h r ra c hi mi sl lt lx ly lh lc le (fr + k) acc = 0)) (
  cond (F.told n e fi 12) (
   .ret (.fin (.c (.bool (F.told m f ce 12))) [])) (
   .ret (.fin (.c (.bool false)) []))) (
  cond (!decide (F.predE i2 st2 t2 x2 y2 sx2 sy2 h2 r2 ra2 c2 hi2 mi2 sl2 lt2 lx2 ly2 lh2 lc2 le2 (fr + k) acc = 0)) (
   cond (F.told n e fi 12) (
    .ret (.fin (.c (.bool (F.told m f ce 12))) [])) (
    .ret (.fin (.c (.bool false)) []))) (
   .need (i64ok (fr + k)) (
   .need (i64ok (fr + k - t)) (
   .need (i64ok (cl * (fr + k - t))) (
   .need (i64ok (100 + cl * (fr + k - t))) (
   .need (i64ok (fr + k)) (
   .need (i64ok (fr + k - t2)) (
   .need (i64ok (cl * (fr + k - t2))) (
   .need (i64ok (100 + cl * (fr + k - t2))) (
   .need (((F.b9 (F.z (F.predE i st t x y sx sy h r ra c hi mi sl lt lx ly lh lc le (fr + k) acc) (F.px x sx (fr + k - t))) ∧ (F.b9 (F.z (F.predE i st t x y sx sy h r ra c hi mi sl lt lx ly lh lc le (fr + k) acc) (F.px y sy (fr + k - t))) ∧ (F.b9   (F.z (F.predE i2 st2 t2 x2 y2 sx2 sy2 h2 r2 ra2 c2 hi2 mi2 sl2 lt2 lx2 ly2 lh2 lc2 le2 (fr + k) acc)     (F.px x2 sx2 (fr + k - t2))) ∧ F.b9   (F.z (F.predE i2 st2 t2 x2 y2 sx2 sy2 h2 r2 ra2 c2 hi2 mi2 sl2 lt2 lx2 ly2 lh2 lc2 le2 (fr + k) acc)     (F.px y2 sy2 (fr + k - t2)))))) ∧ ((F.b9 (F.z (F.predE i st t x y sx sy h r ra c hi mi sl lt lx ly lh lc le (fr + k) acc) (F.ph h r (fr + k - t))) ∧ F.b9   (F.z (F.predE i2 st2 t2 x2 y2 sx2 sy2 h2 r2 ra2 c2 hi2 mi2 sl2 lt2 lx2 ly2 lh2 lc2 le2 (fr + k) acc)     (F.ph h2 r2 (fr + k - t2)))) ∧ ((F.b9   (F.z (F.predE i st t x y sx sy h r ra c hi mi sl lt lx ly lh lc le (fr + k) acc) (F.pr ra sl acc (fr + k - t)) +     F.z (F.predE i2 st2 t2 x2 y2 sx2 sy2 h2 r2 ra2 c2 hi2 mi2 sl2 lt2 lx2 ly2 lh2 lc2 le2 (fr + k) acc)       (F.pr ra2 sl2 acc (fr + k - t2))) ∧ F.b9 lat) ∧ (F.b9 ver ∧ (F.b9 (100 + cl * (fr + k - t)) ∧ F.b9 (100 + cl * (fr + k - t2)))))))) (
   cond (F.clP   (F.far (F.z (F.predE i st t x y sx sy h r ra c hi mi sl lt lx ly lh lc le (fr + k) acc) (F.px x sx (fr + k - t)))     (F.z (F.predE i st t x y sx sy h r ra c hi mi sl lt lx ly lh lc le (fr + k) acc) (F.px y sy (fr + k - t)))     (F.z (F.predE i2 st2 t2 x2 y2 sx2 sy2 h2 r2 ra2 c2 hi2 mi2 sl2 lt2 lx2 ly2 lh2 lc2 le2 (fr + k) acc)       (F.px x2 sx2 (fr + k - t2)))     (F.z (F.predE i2 st2 t2 x2 y2 sx2 sy2 h2 r2 ra2 c2 hi2 mi2 sl2 lt2 lx2 ly2 lh2 lc2 le2 (fr + k) acc)       (F.px y2 sy2 (fr + k - t2))))   (F.apart (F.z (F.predE i st t x y sx sy h r ra c hi mi sl lt lx ly lh lc le (fr + k) acc) (F.ph h r (fr + k - t)))     (F.z (F.predE i2 st2 t2 x2 y2 sx2 sy2 h2 r2 ra2 c2 hi2 mi2 sl2 lt2 lx2 ly2 lh2 lc2 le2 (fr + k) acc)       (F.ph h2 r2 (fr + k - t2))))   (F.z (F.predE i st t x y sx sy h r ra c hi mi sl lt lx ly lh lc le (fr + k) acc) (F.pr ra sl acc (fr + k - t)) +     F.z (F.predE i2 st2 t2 x2 y2 sx2 sy2 h2 r2 ra2 c2 hi2 mi2 sl2 lt2 lx2 ly2 lh2 lc2 le2 (fr + k) acc)       (F.pr ra2 sl2 acc (fr + k - t2)))   lat ver (100 + cl * (fr + k - t)) (100 + cl * (fr + k - t2))) (
    cond (decide (fi < 0)) (
     cond (F.clC   (F.far (F.z (F.predE i st t x y sx sy h r ra c hi mi sl lt lx ly lh lc le (fr + k) acc) (F.px x sx (fr + k - t)))     (F.z (F.predE i st t x y sx sy h r ra c hi mi sl lt lx ly lh lc le (fr + k) acc) (F.px y sy (fr + k - t)))     (F.z (F.predE i2 st2 t2 x2 y2 sx2 sy2 h2 r2 ra2 c2 hi2 mi2 sl2 lt2 lx2 ly2 lh2 lc2 le2 (fr + k) acc)       (F.px x2 sx2 (fr + k - t2)))     (F.z (F.predE i2 st2 t2 x2 y2 sx2 sy2 h2 r2 ra2 c2 hi2 mi2 sl2 lt2 lx2 ly2 lh2 lc2 le2 (fr + k) acc)       (F.px y2 sy2 (fr + k - t2))))   (F.apart (F.z (F.predE i st t x y sx sy h r ra c hi mi sl lt lx ly lh lc le (fr + k) acc) (F.ph h r (fr + k - t)))     (F.z (F.predE i2 st2 t2 x2 y2 sx2 sy2 h2 r2 ra2 c2 hi2 mi2 sl2 lt2 lx2 ly2 lh2 lc2 le2 (fr + k) acc)       (F.ph h2 r2 (fr + k - t2))))   (F.z (F.predE i st t x y sx sy h r ra c hi mi sl lt lx ly lh lc le (fr + k) acc) (F.pr ra sl acc (fr + k - t)) +     F.z (F.predE i2 st2 t2 x2 y2 sx2 sy2 h2 r2 ra2 c2 hi2 mi2 sl2 lt2 lx2 ly2 lh2 lc2 le2 (fr + k) acc)       (F.pr ra2 sl2 acc (fr + k - t2)))   lat ver (100 + cl * (fr + k - t)) (100 + cl * (fr + k - t2))) (
      cond (decide (ce < 0)) (
       .need (i64ok (k + 1)) (
       .ret (.cut (cutAt Try.f9 23) ⟨tmG 197 [(3, .c (.int .i64 se)), (0, .c (.int .i64 acc)), (0, .c (.int .i64 cl)), (0, .c (.ptr 0 0 0)), (0, .c (.ptr 1 0 0)), (0, .c (.ptr 2 0 0)), (10, .c (.int .i64 n)), (0, .c (.int .i64 e)), (0, .c (.int .i64 m)), (0, .c (.int .i64 f)), (1, .c (.int .i64 k)), (0, .c (.int .i64 k)), (0, .c (.ptr 5 0 0)), (0, .c (.int .i64 fr)), (0, .c (.int .i64 (k + 1)))], [.blk [.int .i64 i, .int .i64 st, .int .i64 t, .int .i64 x, .int .i64 y, .int .i64 sx, .int .i64 sy, .int .i64 h, .int .i64 r, .int .i64 ra, .int .i64 c, .int .i64 hi, .int .i64 mi, .int .i64 sl, .int .i64 lt, .int .i64 lx, .int .i64 ly, .int .i64 lh, .int .i64 lc, .int .i64 le] 29, .blk [.int .i64 i2, .int .i64 st2, .int .i64 t2, .int .i64 x2, .int .i64 y2, .int .i64 sx2, .int .i64 sy2, .int .i64 h2, .int .i64 r2, .int .i64 ra2, .int .i64 c2, .int .i64 hi2, .int .i64 mi2, .int .i64 sl2, .int .i64 lt2, .int .i64 lx2, .int .i64 ly2, .int .i64 lh2, .int .i64 lc2, .int .i64 le2] 29, .blk [.int .i64 lat, .int .i64 ver] 81, .blk [.int .i64 10, .int .i64 1000] 81, .blk [.int .i64 0, .int .i64 0, .int .i64 0, .int .i64 500, .int .i64 0, .int .i64 0, .int .i64 0, .int .i64 0, .int .i64 0, .int .i64 0, .int .i64 0, .int .i64 0, .int .i64 0, .int .i64 0, .int .i64 0, .int .i64 0, .int .i64 0, .int .i64 0, .int .i64 0, .int .i64 0] 29, .blk [.int .i64 8] 31]⟩))) (
       .need (i64ok (k + 1)) (
       .ret (.cut (cutAt Try.f9 23) ⟨tmG 197 [(3, .c (.int .i64 se)), (0, .c (.int .i64 acc)), (0, .c (.int .i64 cl)), (0, .c (.ptr 0 0 0)), (0, .c (.ptr 1 0 0)), (0, .c (.ptr 2 0 0)), (10, .c (.int .i64 n)), (0, .c (.int .i64 e)), (0, .c (.int .i64 m)), (0, .c (.int .i64 f)), (1, .c (.int .i64 k)), (0, .c (.int .i64 ce)), (0, .c (.ptr 5 0 0)), (0, .c (.int .i64 fr)), (0, .c (.int .i64 (k + 1)))], [.blk [.int .i64 i, .int .i64 st, .int .i64 t, .int .i64 x, .int .i64 y, .int .i64 sx, .int .i64 sy, .int .i64 h, .int .i64 r, .int .i64 ra, .int .i64 c, .int .i64 hi, .int .i64 mi, .int .i64 sl, .int .i64 lt, .int .i64 lx, .int .i64 ly, .int .i64 lh, .int .i64 lc, .int .i64 le] 29, .blk [.int .i64 i2, .int .i64 st2, .int .i64 t2, .int .i64 x2, .int .i64 y2, .int .i64 sx2, .int .i64 sy2, .int .i64 h2, .int .i64 r2, .int .i64 ra2, .int .i64 c2, .int .i64 hi2, .int .i64 mi2, .int .i64 sl2, .int .i64 lt2, .int .i64 lx2, .int .i64 ly2, .int .i64 lh2, .int .i64 lc2, .int .i64 le2] 29, .blk [.int .i64 lat, .int .i64 ver] 81, .blk [.int .i64 10, .int .i64 1000] 81, .blk [.int .i64 0, .int .i64 0, .int .i64 0, .int .i64 500, .int .i64 0, .int .i64 0, .int .i64 0, .int .i64 0, .int .i64 0, .int .i64 0, .int .i64 0, .int .i64 0, .int .i64 0, .int .i64 0, .int .i64 0, .int .i64 0, .int .i64 0, .int .i64 0, .int .i64 0, .int .i64 0] 29, .blk [.int .i64 8] 31]⟩)))) (
      .need (i64ok (k + 1)) (
      .ret (.cut (cutAt Try.f9 23) ⟨tmG 197 [(3, .c (.int .i64 se)), (0, .c (.int .i64 acc)), (0, .c (.int .i64 cl)), (0, .c (.ptr 0 0 0)), (0, .c (.ptr 1 0 0)), (0, .c (.ptr 2 0 0)), (10, .c (.int .i64 n)), (0, .c (.int .i64 e)), (0, .c (.int .i64 m)), (0, .c (.int .i64 f)), (1, .c (.int .i64 k)), (0, .c (.int .i64 ce)), (0, .c (.ptr 5 0 0)), (0, .c (.int .i64 fr)), (0, .c (.int .i64 (k + 1)))], [.blk [.int .i64 i, .int .i64 st, .int .i64 t, .int .i64 x, .int .i64 y, .int .i64 sx, .int .i64 sy, .int .i64 h, .int .i64 r, .int .i64 ra, .int .i64 c, .int .i64 hi, .int .i64 mi, .int .i64 sl, .int .i64 lt, .int .i64 lx, .int .i64 ly, .int .i64 lh, .int .i64 lc, .int .i64 le] 29, .blk [.int .i64 i2, .int .i64 st2, .int .i64 t2, .int .i64 x2, .int .i64 y2, .int .i64 sx2, .int .i64 sy2, .int .i64 h2, .int .i64 r2, .int .i64 ra2, .int .i64 c2, .int .i64 hi2, .int .i64 mi2, .int .i64 sl2, .int .i64 lt2, .int .i64 lx2, .int .i64 ly2, .int .i64 lh2, .int .i64 lc2, .int .i64 le2] 29, .blk [.int .i64 lat, .int .i64 ver] 81, .blk [.int .i64 10, .int .i64 1000] 81, .blk [.int .i64 0, .int .i64 0, .int .i64 0, .int .i64 500, .int .i64 0, .int .i64 0, .int .i64 0, .int .i64 0, .int .i64 0, .int .i64 0, .int .i64 0, .int .i64 0, .int .i64 0, .int .i64 0, .int .i64 0, .int .i64 0, .int .i64 0, .int .i64 0, .int .i64 0, .int .i64 0] 29, .blk [.int .i64 8] 31]⟩)))) (
     cond (F.clC   (F.far (F.z (F.predE i st t x y sx sy h r ra c hi mi sl lt lx ly lh lc le (fr + k) acc) (F.px x sx (fr + k - t)))     (F.z (F.predE i st t x y sx sy h r ra c hi mi sl lt lx ly lh lc le (fr + k) acc) (F.px y sy (fr + k - t)))     (F.z (F.predE i2 st2 t2 x2 y2 sx2 sy2 h2 r2 ra2 c2 hi2 mi2 sl2 lt2 lx2 ly2 lh2 lc2 le2 (fr + k) acc)       (F.px x2 sx2 (fr + k - t2)))     (F.z (F.predE i2 st2 t2 x2 y2 sx2 sy2 h2 r2 ra2 c2 hi2 mi2 sl2 lt2 lx2 ly2 lh2 lc2 le2 (fr + k) acc)       (F.px y2 sy2 (fr + k - t2))))   (F.apart (F.z (F.predE i st t x y sx sy h r ra c hi mi sl lt lx ly lh lc le (fr + k) acc) (F.ph h r (fr + k - t)))     (F.z (F.predE i2 st2 t2 x2 y2 sx2 sy2 h2 r2 ra2 c2 hi2 mi2 sl2 lt2 lx2 ly2 lh2 lc2 le2 (fr + k) acc)       (F.ph h2 r2 (fr + k - t2))))   (F.z (F.predE i st t x y sx sy h r ra c hi mi sl lt lx ly lh lc le (fr + k) acc) (F.pr ra sl acc (fr + k - t)) +     F.z (F.predE i2 st2 t2 x2 y2 sx2 sy2 h2 r2 ra2 c2 hi2 mi2 sl2 lt2 lx2 ly2 lh2 lc2 le2 (fr + k) acc)       (F.pr ra2 sl2 acc (fr + k - t2)))   lat ver (100 + cl * (fr + k - t)) (100 + cl * (fr + k - t2))) (
      cond (decide (ce < 0)) (
       .need (i64ok (k + 1)) (
       .ret (.cut (cutAt Try.f9 23) ⟨tmG 197 [(3, .c (.int .i64 se)), (0, .c (.int .i64 acc)), (0, .c (.int .i64 cl)), (0, .c (.ptr 0 0 0)), (0, .c (.ptr 1 0 0)), (0, .c (.ptr 2 0 0)), (10, .c (.int .i64 n)), (0, .c (.int .i64 e)), (0, .c (.int .i64 m)), (0, .c (.int .i64 f)), (1, .c (.int .i64 fi)), (0, .c (.int .i64 k)), (0, .c (.ptr 5 0 0)), (0, .c (.int .i64 fr)), (0, .c (.int .i64 (k + 1)))], [.blk [.int .i64 i, .int .i64 st, .int .i64 t, .int .i64 x, .int .i64 y, .int .i64 sx, .int .i64 sy, .int .i64 h, .int .i64 r, .int .i64 ra, .int .i64 c, .int .i64 hi, .int .i64 mi, .int .i64 sl, .int .i64 lt, .int .i64 lx, .int .i64 ly, .int .i64 lh, .int .i64 lc, .int .i64 le] 29, .blk [.int .i64 i2, .int .i64 st2, .int .i64 t2, .int .i64 x2, .int .i64 y2, .int .i64 sx2, .int .i64 sy2, .int .i64 h2, .int .i64 r2, .int .i64 ra2, .int .i64 c2, .int .i64 hi2, .int .i64 mi2, .int .i64 sl2, .int .i64 lt2, .int .i64 lx2, .int .i64 ly2, .int .i64 lh2, .int .i64 lc2, .int .i64 le2] 29, .blk [.int .i64 lat, .int .i64 ver] 81, .blk [.int .i64 10, .int .i64 1000] 81, .blk [.int .i64 0, .int .i64 0, .int .i64 0, .int .i64 500, .int .i64 0, .int .i64 0, .int .i64 0, .int .i64 0, .int .i64 0, .int .i64 0, .int .i64 0, .int .i64 0, .int .i64 0, .int .i64 0, .int .i64 0, .int .i64 0, .int .i64 0, .int .i64 0, .int .i64 0, .int .i64 0] 29, .blk [.int .i64 8] 31]⟩))) (
       .need (i64ok (k + 1)) (
       .ret (.cut (cutAt Try.f9 23) ⟨tmG 197 [(3, .c (.int .i64 se)), (0, .c (.int .i64 acc)), (0, .c (.int .i64 cl)), (0, .c (.ptr 0 0 0)), (0, .c (.ptr 1 0 0)), (0, .c (.ptr 2 0 0)), (10, .c (.int .i64 n)), (0, .c (.int .i64 e)), (0, .c (.int .i64 m)), (0, .c (.int .i64 f)), (1, .c (.int .i64 fi)), (0, .c (.int .i64 ce)), (0, .c (.ptr 5 0 0)), (0, .c (.int .i64 fr)), (0, .c (.int .i64 (k + 1)))], [.blk [.int .i64 i, .int .i64 st, .int .i64 t, .int .i64 x, .int .i64 y, .int .i64 sx, .int .i64 sy, .int .i64 h, .int .i64 r, .int .i64 ra, .int .i64 c, .int .i64 hi, .int .i64 mi, .int .i64 sl, .int .i64 lt, .int .i64 lx, .int .i64 ly, .int .i64 lh, .int .i64 lc, .int .i64 le] 29, .blk [.int .i64 i2, .int .i64 st2, .int .i64 t2, .int .i64 x2, .int .i64 y2, .int .i64 sx2, .int .i64 sy2, .int .i64 h2, .int .i64 r2, .int .i64 ra2, .int .i64 c2, .int .i64 hi2, .int .i64 mi2, .int .i64 sl2, .int .i64 lt2, .int .i64 lx2, .int .i64 ly2, .int .i64 lh2, .int .i64 lc2, .int .i64 le2] 29, .blk [.int .i64 lat, .int .i64 ver] 81, .blk [.int .i64 10, .int .i64 1000] 81, .blk [.int .i64 0, .int .i64 0, .int .i64 0, .int .i64 500, .int .i64 0, .int .i64 0, .int .i64 0, .int .i64 0, .int .i64 0, .int .i64 0, .int .i64 0, .int .i64 0, .int .i64 0, .int .i64 0, .int .i64 0, .int .i64 0, .int .i64 0, .int .i64 0, .int .i64 0, .int .i64 0] 29, .blk [.int .i64 8] 31]⟩)))) (
      .need (i64ok (k + 1)) (
      .ret (.cut (cutAt Try.f9 23) ⟨tmG 197 [(3, .c (.int .i64 se)), (0, .c (.int .i64 acc)), (0, .c (.int .i64 cl)), (0, .c (.ptr 0 0 0)), (0, .c (.ptr 1 0 0)), (0, .c (.ptr 2 0 0)), (10, .c (.int .i64 n)), (0, .c (.int .i64 e)), (0, .c (.int .i64 m)), (0, .c (.int .i64 f)), (1, .c (.int .i64 fi)), (0, .c (.int .i64 ce)), (0, .c (.ptr 5 0 0)), (0, .c (.int .i64 fr)), (0, .c (.int .i64 (k + 1)))], [.blk [.int .i64 i, .int .i64 st, .int .i64 t, .int .i64 x, .int .i64 y, .int .i64 sx, .int .i64 sy, .int .i64 h, .int .i64 r, .int .i64 ra, .int .i64 c, .int .i64 hi, .int .i64 mi, .int .i64 sl, .int .i64 lt, .int .i64 lx, .int .i64 ly, .int .i64 lh, .int .i64 lc, .int .i64 le] 29, .blk [.int .i64 i2, .int .i64 st2, .int .i64 t2, .int .i64 x2, .int .i64 y2, .int .i64 sx2, .int .i64 sy2, .int .i64 h2, .int .i64 r2, .int .i64 ra2, .int .i64 c2, .int .i64 hi2, .int .i64 mi2, .int .i64 sl2, .int .i64 lt2, .int .i64 lx2, .int .i64 ly2, .int .i64 lh2, .int .i64 lc2, .int .i64 le2] 29, .blk [.int .i64 lat, .int .i64 ver] 81, .blk [.int .i64 10, .int .i64 1000] 81, .blk [.int .i64 0, .int .i64 0, .int .i64 0, .int .i64 500, .int .i64 0, .int .i64 0, .int .i64 0, .int .i64 0, .int .i64 0, .int .i64 0, .int .i64 0, .int .i64 0, .int .i64 0, .int .i64 0, .int .i64 0, .int .i64 0, .int .i64 0, .int .i64 0, .int .i64 0, .int .i64 0] 29, .blk [.int .i64 8] 31]⟩))))) (
    cond (F.clC   (F.far (F.z (F.predE i st t x y sx sy h r ra c hi mi sl lt lx ly lh lc le (fr + k) acc) (F.px x sx (fr + k - t)))     (F.z (F.predE i st t x y sx sy h r ra c hi mi sl lt lx ly lh lc le (fr + k) acc) (F.px y sy (fr + k - t)))     (F.z (F.predE i2 st2 t2 x2 y2 sx2 sy2 h2 r2 ra2 c2 hi2 mi2 sl2 lt2 lx2 ly2 lh2 lc2 le2 (fr + k) acc)       (F.px x2 sx2 (fr + k - t2)))     (F.z (F.predE i2 st2 t2 x2 y2 sx2 sy2 h2 r2 ra2 c2 hi2 mi2 sl2 lt2 lx2 ly2 lh2 lc2 le2 (fr + k) acc)       (F.px y2 sy2 (fr + k - t2))))   (F.apart (F.z (F.predE i st t x y sx sy h r ra c hi mi sl lt lx ly lh lc le (fr + k) acc) (F.ph h r (fr + k - t)))     (F.z (F.predE i2 st2 t2 x2 y2 sx2 sy2 h2 r2 ra2 c2 hi2 mi2 sl2 lt2 lx2 ly2 lh2 lc2 le2 (fr + k) acc)       (F.ph h2 r2 (fr + k - t2))))   (F.z (F.predE i st t x y sx sy h r ra c hi mi sl lt lx ly lh lc le (fr + k) acc) (F.pr ra sl acc (fr + k - t)) +     F.z (F.predE i2 st2 t2 x2 y2 sx2 sy2 h2 r2 ra2 c2 hi2 mi2 sl2 lt2 lx2 ly2 lh2 lc2 le2 (fr + k) acc)       (F.pr ra2 sl2 acc (fr + k - t2)))   lat ver (100 + cl * (fr + k - t)) (100 + cl * (fr + k - t2))) (
     cond (decide (ce < 0)) (
      .need (i64ok (k + 1)) (
      .ret (.cut (cutAt Try.f9 23) ⟨tmG 197 [(3, .c (.int .i64 se)), (0, .c (.int .i64 acc)), (0, .c (.int .i64 cl)), (0, .c (.ptr 0 0 0)), (0, .c (.ptr 1 0 0)), (0, .c (.ptr 2 0 0)), (10, .c (.int .i64 n)), (0, .c (.int .i64 e)), (0, .c (.int .i64 m)), (0, .c (.int .i64 f)), (1, .c (.int .i64 fi)), (0, .c (.int .i64 k)), (0, .c (.ptr 5 0 0)), (0, .c (.int .i64 fr)), (0, .c (.int .i64 (k + 1)))], [.blk [.int .i64 i, .int .i64 st, .int .i64 t, .int .i64 x, .int .i64 y, .int .i64 sx, .int .i64 sy, .int .i64 h, .int .i64 r, .int .i64 ra, .int .i64 c, .int .i64 hi, .int .i64 mi, .int .i64 sl, .int .i64 lt, .int .i64 lx, .int .i64 ly, .int .i64 lh, .int .i64 lc, .int .i64 le] 29, .blk [.int .i64 i2, .int .i64 st2, .int .i64 t2, .int .i64 x2, .int .i64 y2, .int .i64 sx2, .int .i64 sy2, .int .i64 h2, .int .i64 r2, .int .i64 ra2, .int .i64 c2, .int .i64 hi2, .int .i64 mi2, .int .i64 sl2, .int .i64 lt2, .int .i64 lx2, .int .i64 ly2, .int .i64 lh2, .int .i64 lc2, .int .i64 le2] 29, .blk [.int .i64 lat, .int .i64 ver] 81, .blk [.int .i64 10, .int .i64 1000] 81, .blk [.int .i64 0, .int .i64 0, .int .i64 0, .int .i64 500, .int .i64 0, .int .i64 0, .int .i64 0, .int .i64 0, .int .i64 0, .int .i64 0, .int .i64 0, .int .i64 0, .int .i64 0, .int .i64 0, .int .i64 0, .int .i64 0, .int .i64 0, .int .i64 0, .int .i64 0, .int .i64 0] 29, .blk [.int .i64 8] 31]⟩))) (
      .need (i64ok (k + 1)) (
      .ret (.cut (cutAt Try.f9 23) ⟨tmG 197 [(3, .c (.int .i64 se)), (0, .c (.int .i64 acc)), (0, .c (.int .i64 cl)), (0, .c (.ptr 0 0 0)), (0, .c (.ptr 1 0 0)), (0, .c (.ptr 2 0 0)), (10, .c (.int .i64 n)), (0, .c (.int .i64 e)), (0, .c (.int .i64 m)), (0, .c (.int .i64 f)), (1, .c (.int .i64 fi)), (0, .c (.int .i64 ce)), (0, .c (.ptr 5 0 0)), (0, .c (.int .i64 fr)), (0, .c (.int .i64 (k + 1)))], [.blk [.int .i64 i, .int .i64 st, .int .i64 t, .int .i64 x, .int .i64 y, .int .i64 sx, .int .i64 sy, .int .i64 h, .int .i64 r, .int .i64 ra, .int .i64 c, .int .i64 hi, .int .i64 mi, .int .i64 sl, .int .i64 lt, .int .i64 lx, .int .i64 ly, .int .i64 lh, .int .i64 lc, .int .i64 le] 29, .blk [.int .i64 i2, .int .i64 st2, .int .i64 t2, .int .i64 x2, .int .i64 y2, .int .i64 sx2, .int .i64 sy2, .int .i64 h2, .int .i64 r2, .int .i64 ra2, .int .i64 c2, .int .i64 hi2, .int .i64 mi2, .int .i64 sl2, .int .i64 lt2, .int .i64 lx2, .int .i64 ly2, .int .i64 lh2, .int .i64 lc2, .int .i64 le2] 29, .blk [.int .i64 lat, .int .i64 ver] 81, .blk [.int .i64 10, .int .i64 1000] 81, .blk [.int .i64 0, .int .i64 0, .int .i64 0, .int .i64 500, .int .i64 0, .int .i64 0, .int .i64 0, .int .i64 0, .int .i64 0, .int .i64 0, .int .i64 0, .int .i64 0, .int .i64 0, .int .i64 0, .int .i64 0, .int .i64 0, .int .i64 0, .int .i64 0, .int .i64 0, .int .i64 0] 29, .blk [.int .i64 8] 31]⟩)))) (
     .need (i64ok (k + 1)) (
     .ret (.cut (cutAt Try.f9 23) ⟨tmG 197 [(3, .c (.int .i64 se)), (0, .c (.int .i64 acc)), (0, .c (.int .i64 cl)), (0, .c (.ptr 0 0 0)), (0, .c (.ptr 1 0 0)), (0, .c (.ptr 2 0 0)), (10, .c (.int .i64 n)), (0, .c (.int .i64 e)), (0, .c (.int .i64 m)), (0, .c (.int .i64 f)), (1, .c (.int .i64 fi)), (0, .c (.int .i64 ce)), (0, .c (.ptr 5 0 0)), (0, .c (.int .i64 fr)), (0, .c (.int .i64 (k + 1)))], [.blk [.int .i64 i, .int .i64 st, .int .i64 t, .int .i64 x, .int .i64 y, .int .i64 sx, .int .i64 sy, .int .i64 h, .int .i64 r, .int .i64 ra, .int .i64 c, .int .i64 hi, .int .i64 mi, .int .i64 sl, .int .i64 lt, .int .i64 lx, .int .i64 ly, .int .i64 lh, .int .i64 lc, .int .i64 le] 29, .blk [.int .i64 i2, .int .i64 st2, .int .i64 t2, .int .i64 x2, .int .i64 y2, .int .i64 sx2, .int .i64 sy2, .int .i64 h2, .int .i64 r2, .int .i64 ra2, .int .i64 c2, .int .i64 hi2, .int .i64 mi2, .int .i64 sl2, .int .i64 lt2, .int .i64 lx2, .int .i64 ly2, .int .i64 lh2, .int .i64 lc2, .int .i64 le2] 29, .blk [.int .i64 lat, .int .i64 ver] 81, .blk [.int .i64 10, .int .i64 1000] 81, .blk [.int .i64 0, .int .i64 0, .int .i64 0, .int .i64 500, .int .i64 0, .int .i64 0, .int .i64 0, .int .i64 0, .int .i64 0, .int .i64 0, .int .i64 0, .int .i64 0, .int .i64 0, .int .i64 0, .int .i64 0, .int .i64 0, .int .i64 0, .int .i64 0, .int .i64 0, .int .i64 0] 29, .blk [.int .i64 8] 31]⟩)))))))))))))))))) (
 cond (F.told n e fi 8) (
  .ret (.fin (.c (.bool (F.told m f ce 8))) [])) (
  .ret (.fin (.c (.bool false)) []))) := by kernel_rfl



def Inv (g : Int → Int) (fr fi n e k : Int) (q : Nat) : Prop := (fi < 0 ∧ F.sear g fr k q = (n, e)) ∨ (0 ≤ fi ∧ e = 0 ∧ n = fi)
theorem inv_end {g : Int → Int} {fr fi n e k : Int} (h : Inv g fr fi n e k 0) : F.told n e fi 8 = true := by
  unfold F.told
  rcases h with ⟨h1, h2⟩ | ⟨h1, h2, h3⟩
  · simp only [F.sear, Prod.mk.injEq] at h2
    simp [h1, ← h2.1, ← h2.2]
  · rw [if_neg (by omega)]
    simp [h2, h3]
theorem inv_bad {g : Int → Int} {fr fi n e k : Int} {q : Nat} (h : Inv g fr fi n e k (q + 1)) (hg : g (fr + k) = 1) : F.told n e fi 12 = true := by
  unfold F.told
  rcases h with ⟨h1, h2⟩ | ⟨h1, h2, h3⟩
  · simp only [F.sear, hg, if_true, Prod.mk.injEq] at h2
    simp [h1, ← h2.1, ← h2.2]
  · rw [if_neg (by omega)]
    simp [h2, h3]
theorem inv_step {g : Int → Int} {fr fi n e k : Int} {q : Nat} {v : Bool} (h : Inv g fr fi n e k (q + 1)) (hg : g (fr + k) = if v then 2 else 0) (hk : 0 ≤ k) : Inv g fr (if v = true ∧ fi < 0 then k else fi) n e (k + 1) q := by
  rcases h with ⟨h1, h2⟩ | ⟨h1, h2, h3⟩
  · cases v
    · simp only [F.sear, hg, Bool.false_eq_true, if_false, Int.reduceEq] at h2
      simp only [Bool.false_eq_true, false_and, if_false]
      exact .inl ⟨h1, h2⟩
    · simp only [F.sear, hg, if_true, Int.reduceEq, if_false, Prod.mk.injEq] at h2
      simp only [h1, and_self, if_true]
      exact .inr ⟨hk, h2.2.symm, h2.1.symm⟩
  · rw [if_neg (by omega)]
    exact .inr ⟨h1, h2, h3⟩
theorem bands (c n t t2 : Int) : c * (2 * n - t - t2) = c * (n - t) + c * (n - t2) := by
  rw [← Int.mul_add]
  congr 1
  omega
theorem apart_max (h h2 : Int) : F.apart h h2 = max (h - h2) (h2 - h) := by
  unfold F.apart
  split <;> omega
theorem clP_eq (d r h h2 lat ver c n t t2 : Int) : F.clP d (F.apart h h2) r lat ver (100 + c * (n - t)) (100 + c * (n - t2)) = F.tstF d r (max (h - h2) (h2 - h)) (200 + c * (2 * n - t - t2)) lat ver := by
  unfold F.clP F.tstF
  rw [bands, apart_max]
  congr 2
  exact propext ⟨fun h => by omega, fun h => by omega⟩
theorem clC_eq (d r h h2 lat ver c n t t2 : Int) : F.clC d (F.apart h h2) r lat ver (100 + c * (n - t)) (100 + c * (n - t2)) = F.tstC d r (max (h - h2) (h2 - h)) (200 + c * (2 * n - t - t2)) lat ver := by
  unfold F.clC F.tstC
  rw [bands, apart_max]
  congr 1
  · congr 1
    exact propext ⟨fun h => by omega, fun h => by omega⟩
  · congr 2
    exact propext ⟨fun h => by omega, fun h => by omega⟩
theorem allaw_loop (i st t x y sx sy h r ra c hi mi sl lt lx ly lh lc le i2 st2 t2 x2 y2 sx2 sy2 h2 r2 ra2 c2 hi2 mi2 sl2 lt2 lx2 ly2 lh2 lc2 le2 lat ver sec acc cl se n e m f : Int) (hs : 0 ≤ se ∧ se ≤ 300) (hc : 0 ≤ cl ∧ cl ≤ 200) (hl : 0 ≤ lat ∧ lat ≤ 1000000) (hv : 0 ≤ ver ∧ ver ≤ 60000) (ht : 0 ≤ t ∧ t ≤ 200000) (ht2 : 0 ≤ t2 ∧ t2 ≤ 200000) (b0 : Base) (hb0 : b0.n = 0) : ∀ (q : Nat) (k fi ce : Int), 0 ≤ k → k + q = se + 1 → Inv (F.hit F.tstF i st t x y sx sy h r ra c hi mi sl lt lx ly lh lc le i2 st2 t2 x2 y2 sx2 sy2 h2 r2 ra2 c2 hi2 mi2 sl2 lt2 lx2 ly2 lh2 lc2 le2 lat ver acc cl) (max t t2) fi n e k q → Inv (F.hit F.tstC i st t x y sx sy h r ra c hi mi sl lt lx ly lh lc le i2 st2 t2 x2 y2 sx2 sy2 h2 r2 ra2 c2 hi2 mi2 sl2 lt2 lx2 ly2 lh2 lc2 le2 lat ver acc cl) (max t t2) ce m f k q →
    Sym.Runs Try.prog b0 (cutAt Try.f9 23) (st_allaw_23 lat ver sec acc cl i st t x y sx sy h r ra c hi mi sl lt lx ly lh lc le i2 st2 t2 x2 y2 sx2 sy2 h2 r2 ra2 c2 hi2 mi2 sl2 lt2 lx2 ly2 lh2 lc2 le2 k n e m f fi ce (max t t2) se) (Sym.Ends Try.prog Try.f9 0 (.c (.bool true)) []) := by
  intro q
  induction q with
  | zero =>
    intro k fi ce h0 hm j1 j2
    refine Runs.go (cfg := C_close) L_close_ok mixed cuts_allaw 400 hb0 (allaw_t23 lat ver sec acc cl i st t x y sx sy h r ra c hi mi sl lt lx ly lh lc le i2 st2 t2 x2 y2 sx2 sy2 h2 r2 ra2 c2 hi2 mi2 sl2 lt2 lx2 ly2 lh2 lc2 le2 k n e m f fi ce (max t t2) se) ?_
    have h1 : ¬ k ≤ se := by omega
    simp only [T.wp, T.wp_cond, Aft, Int.ofNat_eq_natCast, decide_eq_true_eq, and_true, true_and, Nat.zero_add, Bool.not_eq_true', decide_eq_false_iff_not, h1, if_false, inv_end j1, inv_end j2, if_true]
  | succ q ih =>
    intro k fi ce h0 hm j1 j2
    have h1 : k ≤ se := by omega
    have w1 : i64ok (k + 1) := by unfold i64ok; omega
    have w2 : i64ok (max t t2 + k) := by unfold i64ok; omega
    refine Runs.go (cfg := C_close) L_close_ok mixed cuts_allaw 400 hb0 (allaw_t23 lat ver sec acc cl i st t x y sx sy h r ra c hi mi sl lt lx ly lh lc le i2 st2 t2 x2 y2 sx2 sy2 h2 r2 ra2 c2 hi2 mi2 sl2 lt2 lx2 ly2 lh2 lc2 le2 k n e m f fi ce (max t t2) se) ?_
    by_cases e1 : F.predE i st t x y sx sy h r ra c hi mi sl lt lx ly lh lc le (max t t2 + k) acc = 0
    · by_cases e2 : F.predE i2 st2 t2 x2 y2 sx2 sy2 h2 r2 ra2 c2 hi2 mi2 sl2 lt2 lx2 ly2 lh2 lc2 le2 (max t t2 + k) acc = 0
      · obtain ⟨n1, d1, x1, y1, g1, r1⟩ := predE_zero e1
        obtain ⟨_, d2, x2', y2', g2, r2'⟩ := predE_zero e2
        have s1 := inv_step j1 (hit_go e1 e2) h0
        have s2 := inv_step j2 (hit_go e1 e2) h0
        have nx := ih (k + 1) _ _ (by omega) (by omega) s1 s2
        clear ih s1 s2 j1 j2
        have u1 := mul_bd (x := cl) (y := max t t2 + k - t) (a := 200) (b := 600) (by omega) (by omega)
        have u2 := mul_bd (x := cl) (y := max t t2 + k - t2) (a := 200) (b := 600) (by omega) (by omega)
        simp only [T.wp, T.wp_cond, Aft, Int.ofNat_eq_natCast, decide_eq_true_eq, and_true, true_and, Nat.zero_add, Bool.not_eq_true', decide_eq_false_iff_not, h1, if_true, e1, e2, F.z, not_true_eq_false, if_false, w1, w2, clP_eq, clC_eq]
        clear e1 e2
        generalize F.tstF _ _ _ _ _ _ = v1 at *
        generalize F.tstC _ _ _ _ _ _ = v2 at *
        generalize F.px x sx (max t t2 + k - t) = z1 at *
        generalize F.px y sy (max t t2 + k - t) = z2 at *
        generalize F.px x2 sx2 (max t t2 + k - t2) = z3 at *
        generalize F.px y2 sy2 (max t t2 + k - t2) = z4 at *
        generalize F.pr ra sl acc (max t t2 + k - t) = z5 at *
        generalize F.pr ra2 sl2 acc (max t t2 + k - t2) = z6 at *
        generalize F.ph h r (max t t2 + k - t) = z7 at *
        generalize F.ph h2 r2 (max t t2 + k - t2) = z8 at *
        generalize cl * (max t t2 + k - t) = z9 at *
        generalize cl * (max t t2 + k - t2) = z10 at *
        unfold i64ok F.b9
        refine ⟨by omega, by omega, by omega, by omega, by omega, by omega, ⟨⟨by omega, by omega, by omega, by omega⟩, ⟨by omega, by omega⟩, ⟨by omega, by omega⟩, by omega, by omega, by omega⟩, ?_⟩
        cases v1 <;> cases v2 <;> by_cases cc1 : fi < 0 <;> by_cases cc2 : ce < 0 <;> simp only [cc1, cc2, if_true, if_false, and_true, true_and, and_false, false_and, and_self, Bool.false_eq_true] at nx ⊢ <;> exact nx
      · have g1 : F.hit F.tstF i st t x y sx sy h r ra c hi mi sl lt lx ly lh lc le i2 st2 t2 x2 y2 sx2 sy2 h2 r2 ra2 c2 hi2 mi2 sl2 lt2 lx2 ly2 lh2 lc2 le2 lat ver acc cl (max t t2 + k) = 1 := hit_bad (.inr e2)
        have g2 : F.hit F.tstC i st t x y sx sy h r ra c hi mi sl lt lx ly lh lc le i2 st2 t2 x2 y2 sx2 sy2 h2 r2 ra2 c2 hi2 mi2 sl2 lt2 lx2 ly2 lh2 lc2 le2 lat ver acc cl (max t t2 + k) = 1 := hit_bad (.inr e2)
        simp only [T.wp, T.wp_cond, Aft, Int.ofNat_eq_natCast, decide_eq_true_eq, and_true, true_and, Nat.zero_add, Bool.not_eq_true', decide_eq_false_iff_not, h1, if_true, e1, e2, not_true_eq_false, if_false, not_false_eq_true, w2, inv_bad j1 g1, inv_bad j2 g2]
    · have g1 : F.hit F.tstF i st t x y sx sy h r ra c hi mi sl lt lx ly lh lc le i2 st2 t2 x2 y2 sx2 sy2 h2 r2 ra2 c2 hi2 mi2 sl2 lt2 lx2 ly2 lh2 lc2 le2 lat ver acc cl (max t t2 + k) = 1 := hit_bad (.inl e1)
      have g2 : F.hit F.tstC i st t x y sx sy h r ra c hi mi sl lt lx ly lh lc le i2 st2 t2 x2 y2 sx2 sy2 h2 r2 ra2 c2 hi2 mi2 sl2 lt2 lx2 ly2 lh2 lc2 le2 lat ver acc cl (max t t2 + k) = 1 := hit_bad (.inl e1)
      simp only [T.wp, T.wp_cond, Aft, Int.ofNat_eq_natCast, decide_eq_true_eq, and_true, true_and, Nat.zero_add, Bool.not_eq_true', decide_eq_false_iff_not, h1, if_true, e1, not_false_eq_true, w2, inv_bad j1 g1, inv_bad j2 g2]
theorem aout_inb (n hi : Int) : F.aout n hi = !F.inb n 0 hi := by
  unfold F.aout F.inb
  by_cases h1 : n < 0 <;> by_cases h2 : hi < n <;> simp [h1, h2] <;> omega
theorem allaw_13 (i st t x y sx sy h r ra c hi mi sl lt lx ly lh lc le i2 st2 t2 x2 y2 sx2 sy2 h2 r2 ra2 c2 hi2 mi2 sl2 lt2 lx2 ly2 lh2 lc2 le2 lat ver sec acc cl se n e m f : Int) (hs : se ≤ 300) (k1 : F.sea (F.alE i st t x y sx sy h r ra c hi mi sl lt lx ly lh lc le i2 st2 t2 x2 y2 sx2 sy2 h2 r2 ra2 c2 hi2 mi2 sl2 lt2 lx2 ly2 lh2 lc2 le2 lat ver se acc cl) (F.hit F.tstF i st t x y sx sy h r ra c hi mi sl lt lx ly lh lc le i2 st2 t2 x2 y2 sx2 sy2 h2 r2 ra2 c2 hi2 mi2 sl2 lt2 lx2 ly2 lh2 lc2 le2 lat ver acc cl) (max t t2) se = (n, e)) (k2 : F.sea (F.alE i st t x y sx sy h r ra c hi mi sl lt lx ly lh lc le i2 st2 t2 x2 y2 sx2 sy2 h2 r2 ra2 c2 hi2 mi2 sl2 lt2 lx2 ly2 lh2 lc2 le2 lat ver se acc cl) (F.hit F.tstC i st t x y sx sy h r ra c hi mi sl lt lx ly lh lc le i2 st2 t2 x2 y2 sx2 sy2 h2 r2 ra2 c2 hi2 mi2 sl2 lt2 lx2 ly2 lh2 lc2 le2 lat ver acc cl) (max t t2) se = (m, f)) (b0 : Base) (hb0 : b0.n = 0) :
    Sym.Runs Try.prog b0 (regAt Try.f9 13) (st_allaw_r13 lat ver sec acc cl i st t x y sx sy h r ra c hi mi sl lt lx ly lh lc le i2 st2 t2 x2 y2 sx2 sy2 h2 r2 ra2 c2 hi2 mi2 sl2 lt2 lx2 ly2 lh2 lc2 le2 n e m f se) (Sym.Ends Try.prog Try.f9 0 (.c (.bool true)) []) := by
  refine Runs.go (cfg := C_close) L_close_ok mixed cuts_allaw_r13 400 hb0 (allaw_tr13 lat ver sec acc cl i st t x y sx sy h r ra c hi mi sl lt lx ly lh lc le i2 st2 t2 x2 y2 sx2 sy2 h2 r2 ra2 c2 hi2 mi2 sl2 lt2 lx2 ly2 lh2 lc2 le2 n e m f se) ?_
  unfold F.sea F.alE at k1 k2
  simp only [aout_inb] at k1 k2
  by_cases a1 : F.trackE i st t x y sx sy h r ra c hi mi sl lt lx ly lh lc le = 0
  · by_cases a2 : F.trackE i2 st2 t2 x2 y2 sx2 sy2 h2 r2 ra2 c2 hi2 mi2 sl2 lt2 lx2 ly2 lh2 lc2 le2 = 0
    · cases a3 : F.inb lat 0 1000000
      · simp [a1, a2, a3] at k1 k2
        simp [T.wp, Aft, a1, a2, ← k1.1, ← k1.2, ← k2.1, ← k2.2]
      · cases a4 : F.inb ver 0 60000
        · simp [a1, a2, a3, a4] at k1 k2
          simp [T.wp, Aft, a1, a2, ← k1.1, ← k1.2, ← k2.1, ← k2.2]
        · by_cases a5 : se < 0
          · have a5' : F.inb se 0 300 = false := inb_false (.inl a5)
            simp [a1, a2, a3, a4, a5'] at k1 k2
            simp [T.wp, Aft, a1, a2, a5, ← k1.1, ← k1.2, ← k2.1, ← k2.2]
          · have a5' : F.inb se 0 300 = true := inb_true.2 ⟨by omega, hs⟩
            cases a6 : F.inb acc 0 20
            · simp [a1, a2, a3, a4, a5', a6] at k1 k2
              simp [T.wp, Aft, a1, a2, a5, ← k1.1, ← k1.2, ← k2.1, ← k2.2]
            · cases a7 : F.inb cl 0 200
              · simp [a1, a2, a3, a4, a5', a6, a7] at k1 k2
                simp [T.wp, Aft, a1, a2, a5, ← k1.1, ← k1.2, ← k2.1, ← k2.2]
              · simp only [a1, a2, a3, a4, a5', a6, a7, if_true, Bool.not_true, Bool.or_self, Bool.false_eq_true, if_false] at k1 k2
                have b1 := (trackE_zero a1).1
                have b2 := (trackE_zero a2).1
                simp only [T.wp, T.wp_cond, Aft, Int.ofNat_eq_natCast, decide_eq_true_eq, and_true, true_and, Nat.zero_add, Bool.not_eq_true', decide_eq_false_iff_not, a1, a2, a5, Bool.not_true, Bool.false_eq_true, not_true_eq_false, if_false, if_true, reduceCtorEq]
                exact allaw_loop i st t x y sx sy h r ra c hi mi sl lt lx ly lh lc le i2 st2 t2 x2 y2 sx2 sy2 h2 r2 ra2 c2 hi2 mi2 sl2 lt2 lx2 ly2 lh2 lc2 le2 lat ver sec acc cl se n e m f ⟨by omega, hs⟩ (inb_true.1 a7) (inb_true.1 a3) (inb_true.1 a4) b1 b2 b0 hb0 (se + 1).toNat 0 (-1) (-1) (by omega) (by omega) (.inl ⟨by omega, k1⟩) (.inl ⟨by omega, k2⟩)
    · simp [a1, a2] at k1 k2
      simp [T.wp, Aft, a1, a2, ← k1.1, ← k1.2, ← k2.1, ← k2.2]
  · simp [a1] at k1 k2
    simp [T.wp, Aft, a1, ← k1.1, ← k1.2, ← k2.1, ← k2.2]
theorem allaw_run (lat ver : Int) (sec : Int) (acc : Int) (cl : Int) (i st t x y sx sy h r ra c hi mi sl lt lx ly lh lc le i2 st2 t2 x2 y2 sx2 sy2 h2 r2 ra2 c2 hi2 mi2 sl2 lt2 lx2 ly2 lh2 lc2 le2 : Int) (b0 : Base) (hb : b0.n = 0) (h0 : i64ok sec) : Sym.Runs Try.prog b0 [.code (codeOf Try.f9)] ⟨argsS Try.f9 [.agg [.int .i64 i, .int .i64 st, .int .i64 t, .int .i64 x, .int .i64 y, .int .i64 sx, .int .i64 sy, .int .i64 h, .int .i64 r, .int .i64 ra, .int .i64 c, .int .i64 hi, .int .i64 mi, .int .i64 sl, .int .i64 lt, .int .i64 lx, .int .i64 ly, .int .i64 lh, .int .i64 lc, .int .i64 le], .agg [.int .i64 i2, .int .i64 st2, .int .i64 t2, .int .i64 x2, .int .i64 y2, .int .i64 sx2, .int .i64 sy2, .int .i64 h2, .int .i64 r2, .int .i64 ra2, .int .i64 c2, .int .i64 hi2, .int .i64 mi2, .int .i64 sl2, .int .i64 lt2, .int .i64 lx2, .int .i64 ly2, .int .i64 lh2, .int .i64 lc2, .int .i64 le2], .agg [.int .i64 lat, .int .i64 ver], .c (.int .i64 sec), .c (.int .i64 acc), .c (.int .i64 cl)], ([] : Heap cod)⟩ (Sym.Ends Try.prog Try.f9 0 (.c (.bool true)) []) := by
  refine Runs.go (cfg := C_close) L_close_ok mixed cuts_allaw 400 hb (allaw_t0 lat ver sec acc cl i st t x y sx sy h r ra c hi mi sl lt lx ly lh lc le i2 st2 t2 x2 y2 sx2 sy2 h2 r2 ra2 c2 hi2 mi2 sl2 lt2 lx2 ly2 lh2 lc2 le2) ?_
  have h1 := Int.tmod_lt_of_pos (sec / 1) (show (0 : Int) < 41 by omega)
  simp only [T.wp, T.wp_cond, Aft, Int.ofNat_eq_natCast, decide_eq_true_eq, and_true, true_and, Nat.zero_add, Bool.not_eq_true', decide_eq_false_iff_not]
  refine ⟨⟨by omega, h0⟩, by omega, ?_⟩
  exact allaw_13 i st t x y sx sy h r ra c hi mi sl lt lx ly lh lc le i2 st2 t2 x2 y2 sx2 sy2 h2 r2 ra2 c2 hi2 mi2 sl2 lt2 lx2 ly2 lh2 lc2 le2 lat ver sec acc cl _ _ _ _ _ (by omega) rfl rfl b0 hb



noncomputable def s_allaw : Summ cod := fun args H => match args, H with
  | [.agg [.int .i64 i, .int .i64 st, .int .i64 t, .int .i64 x, .int .i64 y, .int .i64 sx, .int .i64 sy, .int .i64 h, .int .i64 r, .int .i64 ra, .int .i64 c, .int .i64 hi, .int .i64 mi, .int .i64 sl, .int .i64 lt, .int .i64 lx, .int .i64 ly, .int .i64 lh, .int .i64 lc, .int .i64 le], .agg [.int .i64 i2, .int .i64 st2, .int .i64 t2, .int .i64 x2, .int .i64 y2, .int .i64 sx2, .int .i64 sy2, .int .i64 h2, .int .i64 r2, .int .i64 ra2, .int .i64 c2, .int .i64 hi2, .int .i64 mi2, .int .i64 sl2, .int .i64 lt2, .int .i64 lx2, .int .i64 ly2, .int .i64 lh2, .int .i64 lc2, .int .i64 le2], .agg [.int .i64 lat, .int .i64 ver], .c (.int .i64 sec), .c (.int .i64 acc), .c (.int .i64 cl)], [] => .need ((i64ok sec)) (.ret (.c (.bool true), []))
  | _, _ => .fail


theorem allaw_sound : Sound Try.prog cod 9 s_allaw := sound_runs (cfg := C_close) L_close_ok mixed Try.func9 rfl rfl _ fun args H r news hg b0 hb => by
  unfold s_allaw at hg
  split at hg
  · skip
    simp only [T.gives, T.wp, Prod.mk.injEq] at hg
    obtain ⟨q0, rfl, rfl⟩ := hg
    exact allaw_run _ _ _ _ _ _ _ _ _ _ _ _ _ _ _ _ _ _ _ _ _ _ _ _ _ _ _ _ _ _ _ _ _ _ _ _ _ _ _ _ _ _ _ _ _ b0 hb (by assumption)
  · exact hg.elim

noncomputable def L_allaw : Sums cod := (9, .p s_allaw) :: L_close
noncomputable def C_allaw : Cfg cod := mkC L_allaw

theorem L_allaw_ok : Snd Try.prog cod L_allaw := .cons allaw_sound L_close_ok


end
end Go.Proofs.Ythljcjighomgkaa
