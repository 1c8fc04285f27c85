/- Part of a claim: lemmas on the way to its theorem; each states its own conditions. -/
import Derived.Test.YtffcfbamcaoidaaGd
namespace Go.Proofs.Ytffcfbamcaoidaa
open Sym Go.RowKit
noncomputable section
set_option maxRecDepth 100000
set_option maxHeartbeats 4000000



def cuts_cslaw : Cuts := [(100025, [1, 6, 5, 7, 8], 1)]
def cuts_cslaw_r25 : Cuts := []

theorem cslaw_t0 (v c f : List UInt8) (n : Int) : symF C_clr cuts_cslaw Try.f4.results.toList 0 400 [.code (codeOf Try.f4)] ⟨argsS Try.f4 [.agg [.str v, .str c, .int .i64 n, .str f]], ([] : Heap cod)⟩ =
 cond (decide (v = [104, 101, 105, 103, 104, 116])) (
 cond (decide (v = [100, 105, 114, 101, 99, 116])) (
  .ret (.cut (regAt Try.f4 25) ⟨tmG 132 [(1, .c (.ptr 0 0 0)), (3, .c (.int .i64 60000)), (0, .c (.int .i64 3)), (0, .c (.bool true)), (0, .c (.bool true))], [.blk [.str v, .str c, .int .i64 n, .str f] 34]⟩)) (
  cond (decide (v = [104, 111, 108, 100])) (
   .ret (.cut (regAt Try.f4 25) ⟨tmG 132 [(1, .c (.ptr 0 0 0)), (3, .c (.int .i64 60000)), (0, .c (.int .i64 4)), (0, .c (.bool true)), (0, .c (.bool true))], [.blk [.str v, .str c, .int .i64 n, .str f] 34]⟩)) (
   cond (decide (v = [99, 111, 110, 116, 97, 99, 116])) (
    .ret (.cut (regAt Try.f4 25) ⟨tmG 132 [(1, .c (.ptr 0 0 0)), (3, .c (.int .i64 60000)), (0, .c (.int .i64 5)), (0, .c (.bool true)), (0, .c (.bool true))], [.blk [.str v, .str c, .int .i64 n, .str f] 34]⟩)) (
    cond (decide (v = [108, 97, 110, 100])) (
     .ret (.cut (regAt Try.f4 25) ⟨tmG 132 [(1, .c (.ptr 0 0 0)), (3, .c (.int .i64 60000)), (0, .c (.int .i64 6)), (0, .c (.bool true)), (0, .c (.bool true))], [.blk [.str v, .str c, .int .i64 n, .str f] 34]⟩)) (
     cond (decide (v = [111, 102, 102, 101, 114])) (
      .ret (.cut (regAt Try.f4 25) ⟨tmG 132 [(1, .c (.ptr 0 0 0)), (3, .c (.int .i64 60000)), (0, .c (.int .i64 0)), (0, .c (.bool true)), (0, .c (.bool true))], [.blk [.str v, .str c, .int .i64 n, .str f] 34]⟩)) (
      .ret (.cut (regAt Try.f4 25) ⟨tmG 132 [(1, .c (.ptr 0 0 0)), (3, .c (.int .i64 60000)), (0, .c (.int .i64 0)), (0, .c (.bool true)), (0, .c (.bool false))], [.blk [.str v, .str c, .int .i64 n, .str f] 34]⟩))))))) (
 cond (decide (v = [104, 101, 97, 100, 105, 110, 103])) (
  cond (decide (v = [100, 105, 114, 101, 99, 116])) (
   .ret (.cut (regAt Try.f4 25) ⟨tmG 132 [(1, .c (.ptr 0 0 0)), (3, .c (.int .i64 4095)), (0, .c (.int .i64 3)), (0, .c (.bool true)), (0, .c (.bool true))], [.blk [.str v, .str c, .int .i64 n, .str f] 34]⟩)) (
   cond (decide (v = [104, 111, 108, 100])) (
    .ret (.cut (regAt Try.f4 25) ⟨tmG 132 [(1, .c (.ptr 0 0 0)), (3, .c (.int .i64 4095)), (0, .c (.int .i64 4)), (0, .c (.bool true)), (0, .c (.bool true))], [.blk [.str v, .str c, .int .i64 n, .str f] 34]⟩)) (
    cond (decide (v = [99, 111, 110, 116, 97, 99, 116])) (
     .ret (.cut (regAt Try.f4 25) ⟨tmG 132 [(1, .c (.ptr 0 0 0)), (3, .c (.int .i64 4095)), (0, .c (.int .i64 5)), (0, .c (.bool true)), (0, .c (.bool true))], [.blk [.str v, .str c, .int .i64 n, .str f] 34]⟩)) (
     cond (decide (v = [108, 97, 110, 100])) (
      .ret (.cut (regAt Try.f4 25) ⟨tmG 132 [(1, .c (.ptr 0 0 0)), (3, .c (.int .i64 4095)), (0, .c (.int .i64 6)), (0, .c (.bool true)), (0, .c (.bool true))], [.blk [.str v, .str c, .int .i64 n, .str f] 34]⟩)) (
      cond (decide (v = [111, 102, 102, 101, 114])) (
       .ret (.cut (regAt Try.f4 25) ⟨tmG 132 [(1, .c (.ptr 0 0 0)), (3, .c (.int .i64 4095)), (0, .c (.int .i64 1)), (0, .c (.bool true)), (0, .c (.bool true))], [.blk [.str v, .str c, .int .i64 n, .str f] 34]⟩)) (
       .ret (.cut (regAt Try.f4 25) ⟨tmG 132 [(1, .c (.ptr 0 0 0)), (3, .c (.int .i64 4095)), (0, .c (.int .i64 1)), (0, .c (.bool true)), (0, .c (.bool false))], [.blk [.str v, .str c, .int .i64 n, .str f] 34]⟩))))))) (
  cond (decide (v = [115, 112, 101, 101, 100])) (
   cond (decide (v = [100, 105, 114, 101, 99, 116])) (
    .ret (.cut (regAt Try.f4 25) ⟨tmG 132 [(1, .c (.ptr 0 0 0)), (3, .c (.int .i64 400)), (0, .c (.int .i64 3)), (0, .c (.bool true)), (0, .c (.bool true))], [.blk [.str v, .str c, .int .i64 n, .str f] 34]⟩)) (
    cond (decide (v = [104, 111, 108, 100])) (
     .ret (.cut (regAt Try.f4 25) ⟨tmG 132 [(1, .c (.ptr 0 0 0)), (3, .c (.int .i64 400)), (0, .c (.int .i64 4)), (0, .c (.bool true)), (0, .c (.bool true))], [.blk [.str v, .str c, .int .i64 n, .str f] 34]⟩)) (
     cond (decide (v = [99, 111, 110, 116, 97, 99, 116])) (
      .ret (.cut (regAt Try.f4 25) ⟨tmG 132 [(1, .c (.ptr 0 0 0)), (3, .c (.int .i64 400)), (0, .c (.int .i64 5)), (0, .c (.bool true)), (0, .c (.bool true))], [.blk [.str v, .str c, .int .i64 n, .str f] 34]⟩)) (
      cond (decide (v = [108, 97, 110, 100])) (
       .ret (.cut (regAt Try.f4 25) ⟨tmG 132 [(1, .c (.ptr 0 0 0)), (3, .c (.int .i64 400)), (0, .c (.int .i64 6)), (0, .c (.bool true)), (0, .c (.bool true))], [.blk [.str v, .str c, .int .i64 n, .str f] 34]⟩)) (
       cond (decide (v = [111, 102, 102, 101, 114])) (
        .ret (.cut (regAt Try.f4 25) ⟨tmG 132 [(1, .c (.ptr 0 0 0)), (3, .c (.int .i64 400)), (0, .c (.int .i64 2)), (0, .c (.bool true)), (0, .c (.bool true))], [.blk [.str v, .str c, .int .i64 n, .str f] 34]⟩)) (
        .ret (.cut (regAt Try.f4 25) ⟨tmG 132 [(1, .c (.ptr 0 0 0)), (3, .c (.int .i64 400)), (0, .c (.int .i64 2)), (0, .c (.bool true)), (0, .c (.bool false))], [.blk [.str v, .str c, .int .i64 n, .str f] 34]⟩))))))) (
   cond (decide (v = [100, 105, 114, 101, 99, 116])) (
    .ret (.cut (regAt Try.f4 25) ⟨tmG 132 [(1, .c (.ptr 0 0 0)), (3, .c (.int .i64 0)), (0, .c (.int .i64 3)), (0, .c (.bool false)), (0, .c (.bool true))], [.blk [.str v, .str c, .int .i64 n, .str f] 34]⟩)) (
    cond (decide (v = [104, 111, 108, 100])) (
     .ret (.cut (regAt Try.f4 25) ⟨tmG 132 [(1, .c (.ptr 0 0 0)), (3, .c (.int .i64 0)), (0, .c (.int .i64 4)), (0, .c (.bool false)), (0, .c (.bool true))], [.blk [.str v, .str c, .int .i64 n, .str f] 34]⟩)) (
     cond (decide (v = [99, 111, 110, 116, 97, 99, 116])) (
      .ret (.cut (regAt Try.f4 25) ⟨tmG 132 [(1, .c (.ptr 0 0 0)), (3, .c (.int .i64 0)), (0, .c (.int .i64 5)), (0, .c (.bool false)), (0, .c (.bool true))], [.blk [.str v, .str c, .int .i64 n, .str f] 34]⟩)) (
      cond (decide (v = [108, 97, 110, 100])) (
       .ret (.cut (regAt Try.f4 25) ⟨tmG 132 [(1, .c (.ptr 0 0 0)), (3, .c (.int .i64 0)), (0, .c (.int .i64 6)), (0, .c (.bool false)), (0, .c (.bool true))], [.blk [.str v, .str c, .int .i64 n, .str f] 34]⟩)) (
       cond (decide (v = [111, 102, 102, 101, 114])) (
        .ret (.cut (regAt Try.f4 25) ⟨tmG 132 [(1, .c (.ptr 0 0 0)), (3, .c (.int .i64 0)), (0, .c (.int .i64 (-1))), (0, .c (.bool false)), (0, .c (.bool true))], [.blk [.str v, .str c, .int .i64 n, .str f] 34]⟩)) (
        .ret (.cut (regAt Try.f4 25) ⟨tmG 132 [(1, .c (.ptr 0 0 0)), (3, .c (.int .i64 0)), (0, .c (.int .i64 (-1))), (0, .c (.bool false)), (0, .c (.bool false))], [.blk [.str v, .str c, .int .i64 n, .str f] 34]⟩))))))))) := by kernel_rfl


noncomputable def st_cslaw_r25 (v c f : List UInt8) (n : Int) (number fix : Bool) (kind most : Int) : St cod := ⟨tmG 132 [(1, .c (.ptr 0 0 0)), (3, .c (.int .i64 most)), (0, .c (.int .i64 kind)), (0, .c (.bool number)), (0, .c (.bool fix))], [.blk [.str v, .str c, .int .i64 n, .str f] 34]⟩


theorem cs_tnum (v c f : List UInt8) (n kind most : Int) : symF C_clr cuts_cslaw_r25 Try.f4.results.toList 0 400 (regAt Try.f4 25) (st_cslaw_r25 v c f n true false kind most) =
 cond (!F.named c) (
 cond (!decide (F.cmd v c n f = 6)) (
  .ret (.fin (.c (.bool false)) [])) (
  cond (decide (F.clrE v c n f = 6)) (
   .ret (.fin (.c (.bool (decide (F.zs (F.clrE v c n f) c = []) &&   (decide (F.z (F.clrE v c n f) (F.verb v) = 0) &&     (decide (F.z (F.clrE v c n f) n = 0) && decide (F.zs (F.clrE v c n f) f = [])))))) [])) (
   .ret (.fin (.c (.bool false)) [])))) (
 cond (!decide (f = [])) (
  cond (!decide (F.cmd v c n f = 3)) (
   .ret (.fin (.c (.bool false)) [])) (
   cond (decide (F.clrE v c n f = 3)) (
    .ret (.fin (.c (.bool (decide (F.zs (F.clrE v c n f) c = []) &&   (decide (F.z (F.clrE v c n f) (F.verb v) = 0) &&     (decide (F.z (F.clrE v c n f) n = 0) && decide (F.zs (F.clrE v c n f) f = [])))))) [])) (
    .ret (.fin (.c (.bool false)) [])))) (
  cond (decide (n < 0)) (
   cond (!decide (F.cmd v c n f = 4)) (
    .ret (.fin (.c (.bool false)) [])) (
    cond (decide (F.clrE v c n f = 4)) (
     .ret (.fin (.c (.bool (decide (F.zs (F.clrE v c n f) c = []) &&   (decide (F.z (F.clrE v c n f) (F.verb v) = 0) &&     (decide (F.z (F.clrE v c n f) n = 0) && decide (F.zs (F.clrE v c n f) f = [])))))) [])) (
     .ret (.fin (.c (.bool false)) [])))) (
   cond (decide (most < n)) (
    cond (!decide (F.cmd v c n f = 4)) (
     .ret (.fin (.c (.bool false)) [])) (
     cond (decide (F.clrE v c n f = 4)) (
      .ret (.fin (.c (.bool (decide (F.zs (F.clrE v c n f) c = []) &&   (decide (F.z (F.clrE v c n f) (F.verb v) = 0) &&     (decide (F.z (F.clrE v c n f) n = 0) && decide (F.zs (F.clrE v c n f) f = [])))))) [])) (
      .ret (.fin (.c (.bool false)) [])))) (
    cond (!decide (F.cmd v c n f = 0)) (
     .ret (.fin (.c (.bool false)) [])) (
     cond (decide (kind < 0)) (
      cond (decide (F.clrE v c n f = 8)) (
       .ret (.fin (.c (.bool (decide (F.zs (F.clrE v c n f) c = []) &&   (decide (F.z (F.clrE v c n f) (F.verb v) = 0) &&     (decide (F.z (F.clrE v c n f) n = 0) && decide (F.zs (F.clrE v c n f) f = [])))))) [])) (
       .ret (.fin (.c (.bool false)) []))) (
      cond (decide (F.clrE v c n f = 0)) (
       .ret (.fin (.c (.bool (decide (F.zs (F.clrE v c n f) c = c) &&   (decide (F.z (F.clrE v c n f) (F.verb v) = kind) &&     (decide (F.z (F.clrE v c n f) n = n) && decide (F.zs (F.clrE v c n f) f = f)))))) [])) (
       .ret (.fin (.c (.bool false)) [])))))))) := by kernel_rfl


theorem cs_tfix (v c f : List UInt8) (n kind most : Int) : symF C_clr cuts_cslaw_r25 Try.f4.results.toList 0 400 (regAt Try.f4 25) (st_cslaw_r25 v c f n false true kind most) =
 cond (!F.named c) (
 cond (!decide (F.cmd v c n f = 6)) (
  .ret (.fin (.c (.bool false)) [])) (
  cond (decide (F.clrE v c n f = 6)) (
   .ret (.fin (.c (.bool (decide (F.zs (F.clrE v c n f) c = []) &&   (decide (F.z (F.clrE v c n f) (F.verb v) = 0) &&     (decide (F.z (F.clrE v c n f) n = 0) && decide (F.zs (F.clrE v c n f) f = [])))))) [])) (
   .ret (.fin (.c (.bool false)) [])))) (
 cond (!F.named f) (
  cond (!decide (F.cmd v c n f = 6)) (
   .ret (.fin (.c (.bool false)) [])) (
   cond (decide (F.clrE v c n f = 6)) (
    .ret (.fin (.c (.bool (decide (F.zs (F.clrE v c n f) c = []) &&   (decide (F.z (F.clrE v c n f) (F.verb v) = 0) &&     (decide (F.z (F.clrE v c n f) n = 0) && decide (F.zs (F.clrE v c n f) f = [])))))) [])) (
    .ret (.fin (.c (.bool false)) [])))) (
  cond (!decide (n = 0)) (
   cond (!decide (F.cmd v c n f = 3)) (
    .ret (.fin (.c (.bool false)) [])) (
    cond (decide (F.clrE v c n f = 3)) (
     .ret (.fin (.c (.bool (decide (F.zs (F.clrE v c n f) c = []) &&   (decide (F.z (F.clrE v c n f) (F.verb v) = 0) &&     (decide (F.z (F.clrE v c n f) n = 0) && decide (F.zs (F.clrE v c n f) f = [])))))) [])) (
     .ret (.fin (.c (.bool false)) [])))) (
   cond (decide (n < 0)) (
    cond (!decide (F.cmd v c n f = 4)) (
     .ret (.fin (.c (.bool false)) [])) (
     cond (decide (F.clrE v c n f = 4)) (
      .ret (.fin (.c (.bool (decide (F.zs (F.clrE v c n f) c = []) &&   (decide (F.z (F.clrE v c n f) (F.verb v) = 0) &&     (decide (F.z (F.clrE v c n f) n = 0) && decide (F.zs (F.clrE v c n f) f = [])))))) [])) (
      .ret (.fin (.c (.bool false)) [])))) (
    cond (decide (most < n)) (
     cond (!decide (F.cmd v c n f = 4)) (
      .ret (.fin (.c (.bool false)) [])) (
      cond (decide (F.clrE v c n f = 4)) (
       .ret (.fin (.c (.bool (decide (F.zs (F.clrE v c n f) c = []) &&   (decide (F.z (F.clrE v c n f) (F.verb v) = 0) &&     (decide (F.z (F.clrE v c n f) n = 0) && decide (F.zs (F.clrE v c n f) f = [])))))) [])) (
       .ret (.fin (.c (.bool false)) [])))) (
     cond (!decide (F.cmd v c n f = 0)) (
      .ret (.fin (.c (.bool false)) [])) (
      cond (decide (kind < 0)) (
       cond (decide (F.clrE v c n f = 8)) (
        .ret (.fin (.c (.bool (decide (F.zs (F.clrE v c n f) c = []) &&   (decide (F.z (F.clrE v c n f) (F.verb v) = 0) &&     (decide (F.z (F.clrE v c n f) n = 0) && decide (F.zs (F.clrE v c n f) f = [])))))) [])) (
        .ret (.fin (.c (.bool false)) []))) (
       cond (decide (F.clrE v c n f = 0)) (
        .ret (.fin (.c (.bool (decide (F.zs (F.clrE v c n f) c = c) &&   (decide (F.z (F.clrE v c n f) (F.verb v) = kind) &&     (decide (F.z (F.clrE v c n f) n = n) && decide (F.zs (F.clrE v c n f) f = f)))))) [])) (
        .ret (.fin (.c (.bool false)) []))))))))) := by kernel_rfl


theorem cs_tnone (v c f : List UInt8) (n kind most : Int) : symF C_clr cuts_cslaw_r25 Try.f4.results.toList 0 400 (regAt Try.f4 25) (st_cslaw_r25 v c f n false false kind most) =
 cond (!decide (v = [97, 99, 99, 101, 112, 116])) (
 cond (!decide (v = [100, 114, 111, 112])) (
  cond (!decide (F.cmd v c n f = 5)) (
   .ret (.fin (.c (.bool false)) [])) (
   cond (decide (F.clrE v c n f = 5)) (
    .ret (.fin (.c (.bool (decide (F.zs (F.clrE v c n f) c = []) &&   (decide (F.z (F.clrE v c n f) (F.verb v) = 0) &&     (decide (F.z (F.clrE v c n f) n = 0) && decide (F.zs (F.clrE v c n f) f = [])))))) [])) (
    .ret (.fin (.c (.bool false)) [])))) (
  cond (!F.named c) (
   cond (!decide (F.cmd v c n f = 6)) (
    .ret (.fin (.c (.bool false)) [])) (
    cond (decide (F.clrE v c n f = 6)) (
     .ret (.fin (.c (.bool (decide (F.zs (F.clrE v c n f) c = []) &&   (decide (F.z (F.clrE v c n f) (F.verb v) = 0) &&     (decide (F.z (F.clrE v c n f) n = 0) && decide (F.zs (F.clrE v c n f) f = [])))))) [])) (
     .ret (.fin (.c (.bool false)) [])))) (
   cond (!decide (f = [])) (
    cond (!decide (F.cmd v c n f = 3)) (
     .ret (.fin (.c (.bool false)) [])) (
     cond (decide (F.clrE v c n f = 3)) (
      .ret (.fin (.c (.bool (decide (F.zs (F.clrE v c n f) c = []) &&   (decide (F.z (F.clrE v c n f) (F.verb v) = 0) &&     (decide (F.z (F.clrE v c n f) n = 0) && decide (F.zs (F.clrE v c n f) f = [])))))) [])) (
      .ret (.fin (.c (.bool false)) [])))) (
    cond (!decide (n = 0)) (
     cond (!decide (F.cmd v c n f = 3)) (
      .ret (.fin (.c (.bool false)) [])) (
      cond (decide (F.clrE v c n f = 3)) (
       .ret (.fin (.c (.bool (decide (F.zs (F.clrE v c n f) c = []) &&   (decide (F.z (F.clrE v c n f) (F.verb v) = 0) &&     (decide (F.z (F.clrE v c n f) n = 0) && decide (F.zs (F.clrE v c n f) f = [])))))) [])) (
       .ret (.fin (.c (.bool false)) [])))) (
     cond (decide (n < 0)) (
      cond (!decide (F.cmd v c n f = 4)) (
       .ret (.fin (.c (.bool false)) [])) (
       cond (decide (F.clrE v c n f = 4)) (
        .ret (.fin (.c (.bool (decide (F.zs (F.clrE v c n f) c = []) &&   (decide (F.z (F.clrE v c n f) (F.verb v) = 0) &&     (decide (F.z (F.clrE v c n f) n = 0) && decide (F.zs (F.clrE v c n f) f = [])))))) [])) (
        .ret (.fin (.c (.bool false)) [])))) (
      cond (decide (most < n)) (
       cond (!decide (F.cmd v c n f = 4)) (
        .ret (.fin (.c (.bool false)) [])) (
        cond (decide (F.clrE v c n f = 4)) (
         .ret (.fin (.c (.bool (decide (F.zs (F.clrE v c n f) c = []) &&   (decide (F.z (F.clrE v c n f) (F.verb v) = 0) &&     (decide (F.z (F.clrE v c n f) n = 0) && decide (F.zs (F.clrE v c n f) f = [])))))) [])) (
         .ret (.fin (.c (.bool false)) [])))) (
       cond (!decide (F.cmd v c n f = 0)) (
        .ret (.fin (.c (.bool false)) [])) (
        cond (decide (kind < 0)) (
         cond (decide (F.clrE v c n f = 8)) (
          .ret (.fin (.c (.bool (decide (F.zs (F.clrE v c n f) c = []) &&   (decide (F.z (F.clrE v c n f) (F.verb v) = 0) &&     (decide (F.z (F.clrE v c n f) n = 0) && decide (F.zs (F.clrE v c n f) f = [])))))) [])) (
          .ret (.fin (.c (.bool false)) []))) (
         cond (decide (F.clrE v c n f = 0)) (
          .ret (.fin (.c (.bool (decide (F.zs (F.clrE v c n f) c = c) &&   (decide (F.z (F.clrE v c n f) (F.verb v) = kind) &&     (decide (F.z (F.clrE v c n f) n = n) && decide (F.zs (F.clrE v c n f) f = f)))))) [])) (
          .ret (.fin (.c (.bool false)) []))))))))))) (
 cond (!F.named c) (
  cond (!decide (F.cmd v c n f = 6)) (
   .ret (.fin (.c (.bool false)) [])) (
   cond (decide (F.clrE v c n f = 6)) (
    .ret (.fin (.c (.bool (decide (F.zs (F.clrE v c n f) c = []) &&   (decide (F.z (F.clrE v c n f) (F.verb v) = 0) &&     (decide (F.z (F.clrE v c n f) n = 0) && decide (F.zs (F.clrE v c n f) f = [])))))) [])) (
    .ret (.fin (.c (.bool false)) [])))) (
  cond (!decide (f = [])) (
   cond (!decide (F.cmd v c n f = 3)) (
    .ret (.fin (.c (.bool false)) [])) (
    cond (decide (F.clrE v c n f = 3)) (
     .ret (.fin (.c (.bool (decide (F.zs (F.clrE v c n f) c = []) &&   (decide (F.z (F.clrE v c n f) (F.verb v) = 0) &&     (decide (F.z (F.clrE v c n f) n = 0) && decide (F.zs (F.clrE v c n f) f = [])))))) [])) (
     .ret (.fin (.c (.bool false)) [])))) (
   cond (!decide (n = 0)) (
    cond (!decide (F.cmd v c n f = 3)) (
     .ret (.fin (.c (.bool false)) [])) (
     cond (decide (F.clrE v c n f = 3)) (
      .ret (.fin (.c (.bool (decide (F.zs (F.clrE v c n f) c = []) &&   (decide (F.z (F.clrE v c n f) (F.verb v) = 0) &&     (decide (F.z (F.clrE v c n f) n = 0) && decide (F.zs (F.clrE v c n f) f = [])))))) [])) (
      .ret (.fin (.c (.bool false)) [])))) (
    cond (decide (n < 0)) (
     cond (!decide (F.cmd v c n f = 4)) (
      .ret (.fin (.c (.bool false)) [])) (
      cond (decide (F.clrE v c n f = 4)) (
       .ret (.fin (.c (.bool (decide (F.zs (F.clrE v c n f) c = []) &&   (decide (F.z (F.clrE v c n f) (F.verb v) = 0) &&     (decide (F.z (F.clrE v c n f) n = 0) && decide (F.zs (F.clrE v c n f) f = [])))))) [])) (
       .ret (.fin (.c (.bool false)) [])))) (
     cond (decide (most < n)) (
      cond (!decide (F.cmd v c n f = 4)) (
       .ret (.fin (.c (.bool false)) [])) (
       cond (decide (F.clrE v c n f = 4)) (
        .ret (.fin (.c (.bool (decide (F.zs (F.clrE v c n f) c = []) &&   (decide (F.z (F.clrE v c n f) (F.verb v) = 0) &&     (decide (F.z (F.clrE v c n f) n = 0) && decide (F.zs (F.clrE v c n f) f = [])))))) [])) (
        .ret (.fin (.c (.bool false)) [])))) (
      cond (!decide (F.cmd v c n f = 0)) (
       .ret (.fin (.c (.bool false)) [])) (
       cond (decide (kind < 0)) (
        cond (decide (F.clrE v c n f = 8)) (
         .ret (.fin (.c (.bool (decide (F.zs (F.clrE v c n f) c = []) &&   (decide (F.z (F.clrE v c n f) (F.verb v) = 0) &&     (decide (F.z (F.clrE v c n f) n = 0) && decide (F.zs (F.clrE v c n f) f = [])))))) [])) (
         .ret (.fin (.c (.bool false)) []))) (
        cond (decide (F.clrE v c n f = 0)) (
         .ret (.fin (.c (.bool (decide (F.zs (F.clrE v c n f) c = c) &&   (decide (F.z (F.clrE v c n f) (F.verb v) = kind) &&     (decide (F.z (F.clrE v c n f) n = n) && decide (F.zs (F.clrE v c n f) f = f)))))) [])) (
         .ret (.fin (.c (.bool false)) [])))))))))) := by kernel_rfl



theorem cs_num0 (v c f : List UInt8) (n : Int) (b0 : Base) (hb : b0.n = 0) (hk : F.verb v = 0) : Sym.Runs Try.prog b0 (regAt Try.f4 25) (st_cslaw_r25 v c f n true false 0 60000) (Sym.Ends Try.prog Try.f4 0 (.c (.bool true)) []) := by
  refine Runs.go (cfg := C_clr) L_clr_ok mixed cuts_cslaw_r25 400 hb (cs_tnum v c f n 0 60000) ?_
  unfold F.clrE F.cmd F.most F.z F.zs
  rw [hk]
  simp only [T.wp, T.wp_cond, Aft, Int.ofNat_eq_natCast, decide_eq_true_eq, and_true, true_and, Nat.zero_add, Bool.not_eq_true', decide_eq_false_iff_not]
  by_cases h1 : F.named c = true <;> by_cases h2 : f = [] <;> by_cases h3 : n < 0 <;> by_cases h4 : 60000 < n <;> simp [h1, h2, h3, h4] <;> first | rfl | omega | skip
theorem cs_num1 (v c f : List UInt8) (n : Int) (b0 : Base) (hb : b0.n = 0) (hk : F.verb v = 1) : Sym.Runs Try.prog b0 (regAt Try.f4 25) (st_cslaw_r25 v c f n true false 1 4095) (Sym.Ends Try.prog Try.f4 0 (.c (.bool true)) []) := by
  refine Runs.go (cfg := C_clr) L_clr_ok mixed cuts_cslaw_r25 400 hb (cs_tnum v c f n 1 4095) ?_
  unfold F.clrE F.cmd F.most F.z F.zs
  rw [hk]
  simp only [T.wp, T.wp_cond, Aft, Int.ofNat_eq_natCast, decide_eq_true_eq, and_true, true_and, Nat.zero_add, Bool.not_eq_true', decide_eq_false_iff_not]
  by_cases h1 : F.named c = true <;> by_cases h2 : f = [] <;> by_cases h3 : n < 0 <;> by_cases h4 : 4095 < n <;> simp [h1, h2, h3, h4] <;> first | rfl | omega | skip
theorem cs_num2 (v c f : List UInt8) (n : Int) (b0 : Base) (hb : b0.n = 0) (hk : F.verb v = 2) : Sym.Runs Try.prog b0 (regAt Try.f4 25) (st_cslaw_r25 v c f n true false 2 400) (Sym.Ends Try.prog Try.f4 0 (.c (.bool true)) []) := by
  refine Runs.go (cfg := C_clr) L_clr_ok mixed cuts_cslaw_r25 400 hb (cs_tnum v c f n 2 400) ?_
  unfold F.clrE F.cmd F.most F.z F.zs
  rw [hk]
  simp only [T.wp, T.wp_cond, Aft, Int.ofNat_eq_natCast, decide_eq_true_eq, and_true, true_and, Nat.zero_add, Bool.not_eq_true', decide_eq_false_iff_not]
  by_cases h1 : F.named c = true <;> by_cases h2 : f = [] <;> by_cases h3 : n < 0 <;> by_cases h4 : 400 < n <;> simp [h1, h2, h3, h4] <;> first | rfl | omega | skip
theorem cs_fix3 (v c f : List UInt8) (n : Int) (b0 : Base) (hb : b0.n = 0) (hk : F.verb v = 3) : Sym.Runs Try.prog b0 (regAt Try.f4 25) (st_cslaw_r25 v c f n false true 3 0) (Sym.Ends Try.prog Try.f4 0 (.c (.bool true)) []) := by
  refine Runs.go (cfg := C_clr) L_clr_ok mixed cuts_cslaw_r25 400 hb (cs_tfix v c f n 3 0) ?_
  unfold F.clrE F.cmd F.most F.z F.zs
  rw [hk]
  simp only [T.wp, T.wp_cond, Aft, Int.ofNat_eq_natCast, decide_eq_true_eq, and_true, true_and, Nat.zero_add, Bool.not_eq_true', decide_eq_false_iff_not]
  by_cases h1 : F.named c = true <;> by_cases h2 : F.named f = true <;> by_cases h3 : n = 0 <;> simp [h1, h2, h3] <;> first | rfl | omega | skip
theorem cs_fix4 (v c f : List UInt8) (n : Int) (b0 : Base) (hb : b0.n = 0) (hk : F.verb v = 4) : Sym.Runs Try.prog b0 (regAt Try.f4 25) (st_cslaw_r25 v c f n false true 4 0) (Sym.Ends Try.prog Try.f4 0 (.c (.bool true)) []) := by
  refine Runs.go (cfg := C_clr) L_clr_ok mixed cuts_cslaw_r25 400 hb (cs_tfix v c f n 4 0) ?_
  unfold F.clrE F.cmd F.most F.z F.zs
  rw [hk]
  simp only [T.wp, T.wp_cond, Aft, Int.ofNat_eq_natCast, decide_eq_true_eq, and_true, true_and, Nat.zero_add, Bool.not_eq_true', decide_eq_false_iff_not]
  by_cases h1 : F.named c = true <;> by_cases h2 : F.named f = true <;> by_cases h3 : n = 0 <;> simp [h1, h2, h3] <;> first | rfl | omega | skip
theorem cs_fix5 (v c f : List UInt8) (n : Int) (b0 : Base) (hb : b0.n = 0) (hk : F.verb v = 5) : Sym.Runs Try.prog b0 (regAt Try.f4 25) (st_cslaw_r25 v c f n false true 5 0) (Sym.Ends Try.prog Try.f4 0 (.c (.bool true)) []) := by
  refine Runs.go (cfg := C_clr) L_clr_ok mixed cuts_cslaw_r25 400 hb (cs_tfix v c f n 5 0) ?_
  unfold F.clrE F.cmd F.most F.z F.zs
  rw [hk]
  simp only [T.wp, T.wp_cond, Aft, Int.ofNat_eq_natCast, decide_eq_true_eq, and_true, true_and, Nat.zero_add, Bool.not_eq_true', decide_eq_false_iff_not]
  by_cases h1 : F.named c = true <;> by_cases h2 : F.named f = true <;> by_cases h3 : n = 0 <;> simp [h1, h2, h3] <;> first | rfl | omega | skip
theorem cs_fix6 (v c f : List UInt8) (n : Int) (b0 : Base) (hb : b0.n = 0) (hk : F.verb v = 6) : Sym.Runs Try.prog b0 (regAt Try.f4 25) (st_cslaw_r25 v c f n false true 6 0) (Sym.Ends Try.prog Try.f4 0 (.c (.bool true)) []) := by
  refine Runs.go (cfg := C_clr) L_clr_ok mixed cuts_cslaw_r25 400 hb (cs_tfix v c f n 6 0) ?_
  unfold F.clrE F.cmd F.most F.z F.zs
  rw [hk]
  simp only [T.wp, T.wp_cond, Aft, Int.ofNat_eq_natCast, decide_eq_true_eq, and_true, true_and, Nat.zero_add, Bool.not_eq_true', decide_eq_false_iff_not]
  by_cases h1 : F.named c = true <;> by_cases h2 : F.named f = true <;> by_cases h3 : n = 0 <;> simp [h1, h2, h3] <;> first | rfl | omega | skip
theorem cs_fix7 (v c f : List UInt8) (n : Int) (b0 : Base) (hb : b0.n = 0) (hk : F.verb v = 7) : Sym.Runs Try.prog b0 (regAt Try.f4 25) (st_cslaw_r25 v c f n false true (-1) 0) (Sym.Ends Try.prog Try.f4 0 (.c (.bool true)) []) := by
  refine Runs.go (cfg := C_clr) L_clr_ok mixed cuts_cslaw_r25 400 hb (cs_tfix v c f n (-1) 0) ?_
  unfold F.clrE F.cmd F.most F.z F.zs
  rw [hk]
  simp only [T.wp, T.wp_cond, Aft, Int.ofNat_eq_natCast, decide_eq_true_eq, and_true, true_and, Nat.zero_add, Bool.not_eq_true', decide_eq_false_iff_not]
  by_cases h1 : F.named c = true <;> by_cases h2 : F.named f = true <;> by_cases h3 : n = 0 <;> simp [h1, h2, h3] <;> first | rfl | omega | skip
theorem cs_acc (v c f : List UInt8) (n : Int) (b0 : Base) (hb : b0.n = 0) (hk : F.verb v = 8) (hw : v = [97, 99, 99, 101, 112, 116]) : Sym.Runs Try.prog b0 (regAt Try.f4 25) (st_cslaw_r25 v c f n false false (-1) 0) (Sym.Ends Try.prog Try.f4 0 (.c (.bool true)) []) := by
  refine Runs.go (cfg := C_clr) L_clr_ok mixed cuts_cslaw_r25 400 hb (cs_tnone v c f n (-1) 0) ?_
  unfold F.clrE F.cmd F.most F.z F.zs
  rw [hk]
  simp only [T.wp, T.wp_cond, Aft, Int.ofNat_eq_natCast, decide_eq_true_eq, and_true, true_and, Nat.zero_add, Bool.not_eq_true', decide_eq_false_iff_not]
  by_cases h1 : F.named c = true <;> by_cases h2 : f = [] <;> by_cases h3 : n = 0 <;> simp [hw, h1, h2, h3] <;> first | rfl | omega | skip
theorem cs_drop (v c f : List UInt8) (n : Int) (b0 : Base) (hb : b0.n = 0) (hk : F.verb v = 9) (hw : v = [100, 114, 111, 112]) : Sym.Runs Try.prog b0 (regAt Try.f4 25) (st_cslaw_r25 v c f n false false (-1) 0) (Sym.Ends Try.prog Try.f4 0 (.c (.bool true)) []) := by
  refine Runs.go (cfg := C_clr) L_clr_ok mixed cuts_cslaw_r25 400 hb (cs_tnone v c f n (-1) 0) ?_
  unfold F.clrE F.cmd F.most F.z F.zs
  rw [hk]
  simp only [T.wp, T.wp_cond, Aft, Int.ofNat_eq_natCast, decide_eq_true_eq, and_true, true_and, Nat.zero_add, Bool.not_eq_true', decide_eq_false_iff_not]
  by_cases h1 : F.named c = true <;> by_cases h2 : f = [] <;> by_cases h3 : n = 0 <;> simp [hw, h1, h2, h3] <;> first | rfl | omega | skip
theorem cs_none (v c f : List UInt8) (n : Int) (b0 : Base) (hb : b0.n = 0) (hk : F.verb v = -1) (h8 : ¬ v = [97, 99, 99, 101, 112, 116]) (h9 : ¬ v = [100, 114, 111, 112]) : Sym.Runs Try.prog b0 (regAt Try.f4 25) (st_cslaw_r25 v c f n false false (-1) 0) (Sym.Ends Try.prog Try.f4 0 (.c (.bool true)) []) := by
  refine Runs.go (cfg := C_clr) L_clr_ok mixed cuts_cslaw_r25 400 hb (cs_tnone v c f n (-1) 0) ?_
  unfold F.clrE F.cmd F.most F.z F.zs
  rw [hk]
  simp [T.wp, T.wp_cond, Aft, Int.ofNat_eq_natCast, decide_eq_true_eq, and_true, true_and, Nat.zero_add, Bool.not_eq_true', decide_eq_false_iff_not, h8, h9]
theorem cslaw_run (v c f : List UInt8) (n : Int) (b0 : Base) (hb : b0.n = 0)  : Sym.Runs Try.prog b0 [.code (codeOf Try.f4)] ⟨argsS Try.f4 [.agg [.str v, .str c, .int .i64 n, .str f]], ([] : Heap cod)⟩ (Sym.Ends Try.prog Try.f4 0 (.c (.bool true)) []) := by
  refine Runs.go (cfg := C_clr) L_clr_ok mixed cuts_cslaw 400 hb (cslaw_t0 v c f n) ?_
  by_cases w0 : v = [104, 101, 105, 103, 104, 116]
  · subst w0
    rw [T.wp_cond, if_pos (by decide)]
    rw [T.wp_cond, if_neg (by decide)]
    rw [T.wp_cond, if_neg (by decide)]
    rw [T.wp_cond, if_neg (by decide)]
    rw [T.wp_cond, if_neg (by decide)]
    rw [T.wp_cond, if_neg (by decide)]
    exact cs_num0 _ c f n b0 hb (by decide)
  by_cases w1 : v = [104, 101, 97, 100, 105, 110, 103]
  · subst w1
    rw [T.wp_cond, if_neg (by decide)]
    rw [T.wp_cond, if_pos (by decide)]
    rw [T.wp_cond, if_neg (by decide)]
    rw [T.wp_cond, if_neg (by decide)]
    rw [T.wp_cond, if_neg (by decide)]
    rw [T.wp_cond, if_neg (by decide)]
    rw [T.wp_cond, if_neg (by decide)]
    exact cs_num1 _ c f n b0 hb (by decide)
  by_cases w2 : v = [115, 112, 101, 101, 100]
  · subst w2
    rw [T.wp_cond, if_neg (by decide)]
    rw [T.wp_cond, if_neg (by decide)]
    rw [T.wp_cond, if_pos (by decide)]
    rw [T.wp_cond, if_neg (by decide)]
    rw [T.wp_cond, if_neg (by decide)]
    rw [T.wp_cond, if_neg (by decide)]
    rw [T.wp_cond, if_neg (by decide)]
    rw [T.wp_cond, if_neg (by decide)]
    exact cs_num2 _ c f n b0 hb (by decide)
  by_cases w3 : v = [100, 105, 114, 101, 99, 116]
  · subst w3
    rw [T.wp_cond, if_neg (by decide)]
    rw [T.wp_cond, if_neg (by decide)]
    rw [T.wp_cond, if_neg (by decide)]
    rw [T.wp_cond, if_pos (by decide)]
    exact cs_fix3 _ c f n b0 hb (by decide)
  by_cases w4 : v = [104, 111, 108, 100]
  · subst w4
    rw [T.wp_cond, if_neg (by decide)]
    rw [T.wp_cond, if_neg (by decide)]
    rw [T.wp_cond, if_neg (by decide)]
    rw [T.wp_cond, if_neg (by decide)]
    rw [T.wp_cond, if_pos (by decide)]
    exact cs_fix4 _ c f n b0 hb (by decide)
  by_cases w5 : v = [99, 111, 110, 116, 97, 99, 116]
  · subst w5
    rw [T.wp_cond, if_neg (by decide)]
    rw [T.wp_cond, if_neg (by decide)]
    rw [T.wp_cond, if_neg (by decide)]
    rw [T.wp_cond, if_neg (by decide)]
    rw [T.wp_cond, if_neg (by decide)]
    rw [T.wp_cond, if_pos (by decide)]
    exact cs_fix5 _ c f n b0 hb (by decide)
  by_cases w6 : v = [108, 97, 110, 100]
  · subst w6
    rw [T.wp_cond, if_neg (by decide)]
    rw [T.wp_cond, if_neg (by decide)]
    rw [T.wp_cond, if_neg (by decide)]
    rw [T.wp_cond, if_neg (by decide)]
    rw [T.wp_cond, if_neg (by decide)]
    rw [T.wp_cond, if_neg (by decide)]
    rw [T.wp_cond, if_pos (by decide)]
    exact cs_fix6 _ c f n b0 hb (by decide)
  by_cases w7 : v = [111, 102, 102, 101, 114]
  · subst w7
    rw [T.wp_cond, if_neg (by decide)]
    rw [T.wp_cond, if_neg (by decide)]
    rw [T.wp_cond, if_neg (by decide)]
    rw [T.wp_cond, if_neg (by decide)]
    rw [T.wp_cond, if_neg (by decide)]
    rw [T.wp_cond, if_neg (by decide)]
    rw [T.wp_cond, if_neg (by decide)]
    rw [T.wp_cond, if_pos (by decide)]
    exact cs_fix7 _ c f n b0 hb (by decide)
  by_cases w8 : v = [97, 99, 99, 101, 112, 116]
  · subst w8
    rw [T.wp_cond, if_neg (by decide)]
    rw [T.wp_cond, if_neg (by decide)]
    rw [T.wp_cond, if_neg (by decide)]
    rw [T.wp_cond, if_neg (by decide)]
    rw [T.wp_cond, if_neg (by decide)]
    rw [T.wp_cond, if_neg (by decide)]
    rw [T.wp_cond, if_neg (by decide)]
    rw [T.wp_cond, if_neg (by decide)]
    exact cs_acc _ c f n b0 hb (by decide) rfl
  by_cases w9 : v = [100, 114, 111, 112]
  · subst w9
    rw [T.wp_cond, if_neg (by decide)]
    rw [T.wp_cond, if_neg (by decide)]
    rw [T.wp_cond, if_neg (by decide)]
    rw [T.wp_cond, if_neg (by decide)]
    rw [T.wp_cond, if_neg (by decide)]
    rw [T.wp_cond, if_neg (by decide)]
    rw [T.wp_cond, if_neg (by decide)]
    rw [T.wp_cond, if_neg (by decide)]
    exact cs_drop _ c f n b0 hb (by decide) rfl
  have hv : F.verb v = -1 := by
    unfold F.verb F.verbs
    simp only [F.idxGo, w0, w1, w2, w3, w4, w5, w6, w7, w8, w9, if_false]
  rw [T.wp_cond, if_neg (by rw [decide_eq_true_eq]; exact w0)]
  rw [T.wp_cond, if_neg (by rw [decide_eq_true_eq]; exact w1)]
  rw [T.wp_cond, if_neg (by rw [decide_eq_true_eq]; exact w2)]
  rw [T.wp_cond, if_neg (by rw [decide_eq_true_eq]; exact w3)]
  rw [T.wp_cond, if_neg (by rw [decide_eq_true_eq]; exact w4)]
  rw [T.wp_cond, if_neg (by rw [decide_eq_true_eq]; exact w5)]
  rw [T.wp_cond, if_neg (by rw [decide_eq_true_eq]; exact w6)]
  rw [T.wp_cond, if_neg (by rw [decide_eq_true_eq]; exact w7)]
  exact cs_none v c f n b0 hb hv w8 w9



noncomputable def s_cslaw : Summ cod := fun args H => match args, H with
  | [.agg [.str v, .str c, .int .i64 n, .str f]], [] => .ret (.c (.bool true), [])
  | _, _ => .fail


theorem cslaw_sound : Sound Try.prog cod 4 s_cslaw := sound_runs (cfg := C_clr) L_clr_ok mixed Try.func4 rfl rfl _ fun args H r news hg b0 hb => by
  unfold s_cslaw at hg
  split at hg
  · skip
    cases hg
    exact cslaw_run _ _ _ _ b0 hb 
  · exact hg.elim

noncomputable def L_cslaw : Sums cod := (4, s_cslaw) :: L_clr
noncomputable def C_cslaw : Cfg cod := mkC L_cslaw

theorem L_cslaw_ok : Snd Try.prog cod L_cslaw := .cons cslaw_sound L_clr_ok


end
end Go.Proofs.Ytffcfbamcaoidaa
