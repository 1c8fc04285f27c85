/- Part of a claim: lemmas on the way to its theorem; each states its own conditions. -/
import Derived.Test.YtbdhppceihcbnaaPe
import Derived.Test.YtbdhppceihcbnaaSym45
namespace Go.Proofs.Ytbdhppceihcbnaa
open Sym Go.RowKit
noncomputable section
set_option maxRecDepth 100000
set_option maxHeartbeats 4000000



namespace F
def out (cx cy s w h : Int) (l : List (List (Int × Int))) (ps : List (Int × Int)) : List (List UInt8) := if picE cx cy s w h l ps = 0 then oG (pic (cx, cy, s, w, h) l ps) h.toNat h.toNat else []
end F
noncomputable def Q8 : Array Oper := opsI (regAt Try.f4 8)


def cuts_pict : Cuts := [(100005, [9, 3, 2, 1], 6), (6, [9, 3, 2, 1, 32, 33], 6), (100008, [9, 3, 2, 1, 32, 33, 10], 6), (100009, [9, 3, 2, 1, 32, 33], 8), (11, [9, 3, 44, 2, 45, 46], 6), (100012, [9, 3, 44, 2, 45, 46], 7), (14, [9, 3, 12, 50, 44, 2, 45, 46, 51, 52], 7), (19, [9, 3, 76, 12, 50, 44, 2, 45, 46, 51, 52, 77, 78], 9), (100022, [9, 3, 76, 12, 50, 44, 2, 45, 46, 51, 52, 77, 78, 18], 11), (100023, [9, 3, 76, 12, 50, 44, 2, 45, 46, 51, 52, 77, 78], 11), (100025, [9, 3, 44, 2, 45, 46], 7), (27, [9, 3, 95, 96, 97], 6), (100031, [9, 3, 95, 96, 97, 21], 9), (100032, [9, 3, 95, 96, 97], 9), (35, [9, 23, 22], 7), (100037, [9, 23, 22], 8), (100036, [9, 22, 23], 8)]
def cuts_pict_r5 : Cuts := [(6, [9, 3, 2, 1, 32, 33], 6), (100008, [9, 3, 2, 1, 32, 33, 10], 6), (100009, [9, 3, 2, 1, 32, 33], 8), (11, [9, 3, 44, 2, 45, 46], 6), (100012, [9, 3, 44, 2, 45, 46], 7), (14, [9, 3, 12, 50, 44, 2, 45, 46, 51, 52], 7), (19, [9, 3, 76, 12, 50, 44, 2, 45, 46, 51, 52, 77, 78], 9), (100022, [9, 3, 76, 12, 50, 44, 2, 45, 46, 51, 52, 77, 78, 18], 11), (100023, [9, 3, 76, 12, 50, 44, 2, 45, 46, 51, 52, 77, 78], 11), (100025, [9, 3, 44, 2, 45, 46], 7), (27, [9, 3, 95, 96, 97], 6), (100031, [9, 3, 95, 96, 97, 21], 9), (100032, [9, 3, 95, 96, 97], 9), (35, [9, 23, 22], 7), (100037, [9, 23, 22], 8), (100036, [9, 22, 23], 8)]
def cuts_pict_r5b : Cuts := [(6, [9, 3, 2, 1, 32, 33], 6), (100008, [9, 3, 2, 1, 32, 33, 10], 6), (100009, [9, 3, 2, 1, 32, 33], 8), (11, [9, 3, 44, 2, 45, 46], 6), (100012, [9, 3, 44, 2, 45, 46], 7), (14, [9, 3, 12, 50, 44, 2, 45, 46, 51, 52], 7), (19, [9, 3, 76, 12, 50, 44, 2, 45, 46, 51, 52, 77, 78], 9), (100022, [9, 3, 76, 12, 50, 44, 2, 45, 46, 51, 52, 77, 78, 18], 11), (100023, [9, 3, 76, 12, 50, 44, 2, 45, 46, 51, 52, 77, 78], 11), (100025, [9, 3, 44, 2, 45, 46], 7), (27, [9, 3, 95, 96, 97], 6), (100031, [9, 3, 95, 96, 97, 21], 9), (100032, [9, 3, 95, 96, 97], 9), (35, [9, 23, 22], 7), (100037, [9, 23, 22], 8), (100036, [9, 22, 23], 8)]
def cuts_pict_r8 : Cuts := [(100005, [9, 3, 2, 1], 6), (6, [9, 3, 2, 1, 32, 33], 6), (100009, [9, 3, 2, 1, 32, 33], 8), (11, [9, 3, 44, 2, 45, 46], 6), (100012, [9, 3, 44, 2, 45, 46], 7), (14, [9, 3, 12, 50, 44, 2, 45, 46, 51, 52], 7), (19, [9, 3, 76, 12, 50, 44, 2, 45, 46, 51, 52, 77, 78], 9), (100022, [9, 3, 76, 12, 50, 44, 2, 45, 46, 51, 52, 77, 78, 18], 11), (100023, [9, 3, 76, 12, 50, 44, 2, 45, 46, 51, 52, 77, 78], 11), (100025, [9, 3, 44, 2, 45, 46], 7), (27, [9, 3, 95, 96, 97], 6), (100031, [9, 3, 95, 96, 97, 21], 9), (100032, [9, 3, 95, 96, 97], 9), (35, [9, 23, 22], 7), (100037, [9, 23, 22], 8), (100036, [9, 22, 23], 8)]
def cuts_pict_r9 : Cuts := [(100005, [9, 3, 2, 1], 6), (6, [9, 3, 2, 1, 32, 33], 6), (100008, [9, 3, 2, 1, 32, 33, 10], 6), (11, [9, 3, 44, 2, 45, 46], 6), (100012, [9, 3, 44, 2, 45, 46], 7), (14, [9, 3, 12, 50, 44, 2, 45, 46, 51, 52], 7), (19, [9, 3, 76, 12, 50, 44, 2, 45, 46, 51, 52, 77, 78], 9), (100022, [9, 3, 76, 12, 50, 44, 2, 45, 46, 51, 52, 77, 78, 18], 11), (100023, [9, 3, 76, 12, 50, 44, 2, 45, 46, 51, 52, 77, 78], 11), (100025, [9, 3, 44, 2, 45, 46], 7), (27, [9, 3, 95, 96, 97], 6), (100031, [9, 3, 95, 96, 97, 21], 9), (100032, [9, 3, 95, 96, 97], 9), (35, [9, 23, 22], 7), (100037, [9, 23, 22], 8), (100036, [9, 22, 23], 8)]
def cuts_pict_r12 : Cuts := [(100005, [9, 3, 2, 1], 6), (6, [9, 3, 2, 1, 32, 33], 6), (100008, [9, 3, 2, 1, 32, 33, 10], 6), (100009, [9, 3, 2, 1, 32, 33], 8), (11, [9, 3, 44, 2, 45, 46], 6), (14, [9, 3, 12, 50, 44, 2, 45, 46, 51, 52], 7), (19, [9, 3, 76, 12, 50, 44, 2, 45, 46, 51, 52, 77, 78], 9), (100022, [9, 3, 76, 12, 50, 44, 2, 45, 46, 51, 52, 77, 78, 18], 11), (100023, [9, 3, 76, 12, 50, 44, 2, 45, 46, 51, 52, 77, 78], 11), (100025, [9, 3, 44, 2, 45, 46], 7), (27, [9, 3, 95, 96, 97], 6), (100031, [9, 3, 95, 96, 97, 21], 9), (100032, [9, 3, 95, 96, 97], 9), (35, [9, 23, 22], 7), (100037, [9, 23, 22], 8), (100036, [9, 22, 23], 8)]
def cuts_pict_r12b : Cuts := [(100005, [9, 3, 2, 1], 6), (6, [9, 3, 2, 1, 32, 33], 6), (100008, [9, 3, 2, 1, 32, 33, 10], 6), (100009, [9, 3, 2, 1, 32, 33], 8), (11, [9, 3, 44, 2, 45, 46], 6), (14, [9, 3, 12, 50, 44, 2, 45, 46, 51, 52], 7), (19, [9, 3, 76, 12, 50, 44, 2, 45, 46, 51, 52, 77, 78], 9), (100022, [9, 3, 76, 12, 50, 44, 2, 45, 46, 51, 52, 77, 78, 18], 11), (100023, [9, 3, 76, 12, 50, 44, 2, 45, 46, 51, 52, 77, 78], 11), (100025, [9, 3, 44, 2, 45, 46], 7), (27, [9, 3, 95, 96, 97], 6), (100031, [9, 3, 95, 96, 97, 21], 9), (100032, [9, 3, 95, 96, 97], 9), (35, [9, 23, 22], 7), (100037, [9, 23, 22], 8), (100036, [9, 22, 23], 8)]
def cuts_pict_r22 : Cuts := [(100005, [9, 3, 2, 1], 6), (6, [9, 3, 2, 1, 32, 33], 6), (100008, [9, 3, 2, 1, 32, 33, 10], 6), (100009, [9, 3, 2, 1, 32, 33], 8), (11, [9, 3, 44, 2, 45, 46], 6), (100012, [9, 3, 44, 2, 45, 46], 7), (14, [9, 3, 12, 50, 44, 2, 45, 46, 51, 52], 7), (19, [9, 3, 76, 12, 50, 44, 2, 45, 46, 51, 52, 77, 78], 9), (100023, [9, 3, 76, 12, 50, 44, 2, 45, 46, 51, 52, 77, 78], 11), (100025, [9, 3, 44, 2, 45, 46], 7), (27, [9, 3, 95, 96, 97], 6), (100031, [9, 3, 95, 96, 97, 21], 9), (100032, [9, 3, 95, 96, 97], 9), (35, [9, 23, 22], 7), (100037, [9, 23, 22], 8), (100036, [9, 22, 23], 8)]
def cuts_pict_r22b : Cuts := [(100005, [9, 3, 2, 1], 6), (6, [9, 3, 2, 1, 32, 33], 6), (100008, [9, 3, 2, 1, 32, 33, 10], 6), (100009, [9, 3, 2, 1, 32, 33], 8), (11, [9, 3, 44, 2, 45, 46], 6), (100012, [9, 3, 44, 2, 45, 46], 7), (14, [9, 3, 12, 50, 44, 2, 45, 46, 51, 52], 7), (19, [9, 3, 76, 12, 50, 44, 2, 45, 46, 51, 52, 77, 78], 9), (100023, [9, 3, 76, 12, 50, 44, 2, 45, 46, 51, 52, 77, 78], 11), (100025, [9, 3, 44, 2, 45, 46], 7), (27, [9, 3, 95, 96, 97], 6), (100031, [9, 3, 95, 96, 97, 21], 9), (100032, [9, 3, 95, 96, 97], 9), (35, [9, 23, 22], 7), (100037, [9, 23, 22], 8), (100036, [9, 22, 23], 8)]
def cuts_pict_r23 : Cuts := [(100005, [9, 3, 2, 1], 6), (6, [9, 3, 2, 1, 32, 33], 6), (100008, [9, 3, 2, 1, 32, 33, 10], 6), (100009, [9, 3, 2, 1, 32, 33], 8), (11, [9, 3, 44, 2, 45, 46], 6), (100012, [9, 3, 44, 2, 45, 46], 7), (14, [9, 3, 12, 50, 44, 2, 45, 46, 51, 52], 7), (19, [9, 3, 76, 12, 50, 44, 2, 45, 46, 51, 52, 77, 78], 9), (100022, [9, 3, 76, 12, 50, 44, 2, 45, 46, 51, 52, 77, 78, 18], 11), (100025, [9, 3, 44, 2, 45, 46], 7), (27, [9, 3, 95, 96, 97], 6), (100031, [9, 3, 95, 96, 97, 21], 9), (100032, [9, 3, 95, 96, 97], 9), (35, [9, 23, 22], 7), (100037, [9, 23, 22], 8), (100036, [9, 22, 23], 8)]
def cuts_pict_r25 : Cuts := [(100005, [9, 3, 2, 1], 6), (6, [9, 3, 2, 1, 32, 33], 6), (100008, [9, 3, 2, 1, 32, 33, 10], 6), (100009, [9, 3, 2, 1, 32, 33], 8), (11, [9, 3, 44, 2, 45, 46], 6), (100012, [9, 3, 44, 2, 45, 46], 7), (14, [9, 3, 12, 50, 44, 2, 45, 46, 51, 52], 7), (19, [9, 3, 76, 12, 50, 44, 2, 45, 46, 51, 52, 77, 78], 9), (100022, [9, 3, 76, 12, 50, 44, 2, 45, 46, 51, 52, 77, 78, 18], 11), (100023, [9, 3, 76, 12, 50, 44, 2, 45, 46, 51, 52, 77, 78], 11), (27, [9, 3, 95, 96, 97], 6), (100031, [9, 3, 95, 96, 97, 21], 9), (100032, [9, 3, 95, 96, 97], 9), (35, [9, 23, 22], 7), (100037, [9, 23, 22], 8), (100036, [9, 22, 23], 8)]
def cuts_pict_r31 : Cuts := [(100005, [9, 3, 2, 1], 6), (6, [9, 3, 2, 1, 32, 33], 6), (100008, [9, 3, 2, 1, 32, 33, 10], 6), (100009, [9, 3, 2, 1, 32, 33], 8), (11, [9, 3, 44, 2, 45, 46], 6), (100012, [9, 3, 44, 2, 45, 46], 7), (14, [9, 3, 12, 50, 44, 2, 45, 46, 51, 52], 7), (19, [9, 3, 76, 12, 50, 44, 2, 45, 46, 51, 52, 77, 78], 9), (100022, [9, 3, 76, 12, 50, 44, 2, 45, 46, 51, 52, 77, 78, 18], 11), (100023, [9, 3, 76, 12, 50, 44, 2, 45, 46, 51, 52, 77, 78], 11), (100025, [9, 3, 44, 2, 45, 46], 7), (27, [9, 3, 95, 96, 97], 6), (100032, [9, 3, 95, 96, 97], 9), (35, [9, 23, 22], 7), (100037, [9, 23, 22], 8), (100036, [9, 22, 23], 8)]
def cuts_pict_r31b : Cuts := [(100005, [9, 3, 2, 1], 6), (6, [9, 3, 2, 1, 32, 33], 6), (100008, [9, 3, 2, 1, 32, 33, 10], 6), (100009, [9, 3, 2, 1, 32, 33], 8), (11, [9, 3, 44, 2, 45, 46], 6), (100012, [9, 3, 44, 2, 45, 46], 7), (14, [9, 3, 12, 50, 44, 2, 45, 46, 51, 52], 7), (19, [9, 3, 76, 12, 50, 44, 2, 45, 46, 51, 52, 77, 78], 9), (100022, [9, 3, 76, 12, 50, 44, 2, 45, 46, 51, 52, 77, 78, 18], 11), (100023, [9, 3, 76, 12, 50, 44, 2, 45, 46, 51, 52, 77, 78], 11), (100025, [9, 3, 44, 2, 45, 46], 7), (27, [9, 3, 95, 96, 97], 6), (100032, [9, 3, 95, 96, 97], 9), (35, [9, 23, 22], 7), (100037, [9, 23, 22], 8), (100036, [9, 22, 23], 8)]
def cuts_pict_r32 : Cuts := [(100005, [9, 3, 2, 1], 6), (6, [9, 3, 2, 1, 32, 33], 6), (100008, [9, 3, 2, 1, 32, 33, 10], 6), (100009, [9, 3, 2, 1, 32, 33], 8), (11, [9, 3, 44, 2, 45, 46], 6), (100012, [9, 3, 44, 2, 45, 46], 7), (14, [9, 3, 12, 50, 44, 2, 45, 46, 51, 52], 7), (19, [9, 3, 76, 12, 50, 44, 2, 45, 46, 51, 52, 77, 78], 9), (100022, [9, 3, 76, 12, 50, 44, 2, 45, 46, 51, 52, 77, 78, 18], 11), (100023, [9, 3, 76, 12, 50, 44, 2, 45, 46, 51, 52, 77, 78], 11), (100025, [9, 3, 44, 2, 45, 46], 7), (27, [9, 3, 95, 96, 97], 6), (100031, [9, 3, 95, 96, 97, 21], 9), (35, [9, 23, 22], 7), (100037, [9, 23, 22], 8), (100036, [9, 22, 23], 8)]
def cuts_pict_r37 : Cuts := [(100005, [9, 3, 2, 1], 6), (6, [9, 3, 2, 1, 32, 33], 6), (100008, [9, 3, 2, 1, 32, 33, 10], 6), (100009, [9, 3, 2, 1, 32, 33], 8), (11, [9, 3, 44, 2, 45, 46], 6), (100012, [9, 3, 44, 2, 45, 46], 7), (14, [9, 3, 12, 50, 44, 2, 45, 46, 51, 52], 7), (19, [9, 3, 76, 12, 50, 44, 2, 45, 46, 51, 52, 77, 78], 9), (100022, [9, 3, 76, 12, 50, 44, 2, 45, 46, 51, 52, 77, 78, 18], 11), (100023, [9, 3, 76, 12, 50, 44, 2, 45, 46, 51, 52, 77, 78], 11), (100025, [9, 3, 44, 2, 45, 46], 7), (27, [9, 3, 95, 96, 97], 6), (100031, [9, 3, 95, 96, 97, 21], 9), (100032, [9, 3, 95, 96, 97], 9), (35, [9, 23, 22], 7), (100036, [9, 22, 23], 8)]
def cuts_pict_r37b : Cuts := [(100005, [9, 3, 2, 1], 6), (6, [9, 3, 2, 1, 32, 33], 6), (100008, [9, 3, 2, 1, 32, 33, 10], 6), (100009, [9, 3, 2, 1, 32, 33], 8), (11, [9, 3, 44, 2, 45, 46], 6), (100012, [9, 3, 44, 2, 45, 46], 7), (14, [9, 3, 12, 50, 44, 2, 45, 46, 51, 52], 7), (19, [9, 3, 76, 12, 50, 44, 2, 45, 46, 51, 52, 77, 78], 9), (100022, [9, 3, 76, 12, 50, 44, 2, 45, 46, 51, 52, 77, 78, 18], 11), (100023, [9, 3, 76, 12, 50, 44, 2, 45, 46, 51, 52, 77, 78], 11), (100025, [9, 3, 44, 2, 45, 46], 7), (27, [9, 3, 95, 96, 97], 6), (100031, [9, 3, 95, 96, 97, 21], 9), (100032, [9, 3, 95, 96, 97], 9), (35, [9, 23, 22], 7), (100036, [9, 22, 23], 8)]
def cuts_pict_r36 : Cuts := [(100005, [9, 3, 2, 1], 6), (6, [9, 3, 2, 1, 32, 33], 6), (100008, [9, 3, 2, 1, 32, 33, 10], 6), (100009, [9, 3, 2, 1, 32, 33], 8), (11, [9, 3, 44, 2, 45, 46], 6), (100012, [9, 3, 44, 2, 45, 46], 7), (14, [9, 3, 12, 50, 44, 2, 45, 46, 51, 52], 7), (19, [9, 3, 76, 12, 50, 44, 2, 45, 46, 51, 52, 77, 78], 9), (100022, [9, 3, 76, 12, 50, 44, 2, 45, 46, 51, 52, 77, 78, 18], 11), (100023, [9, 3, 76, 12, 50, 44, 2, 45, 46, 51, 52, 77, 78], 11), (100025, [9, 3, 44, 2, 45, 46], 7), (27, [9, 3, 95, 96, 97], 6), (100031, [9, 3, 95, 96, 97, 21], 9), (100032, [9, 3, 95, 96, 97], 9), (35, [9, 23, 22], 7), (100037, [9, 23, 22], 8)]

theorem pict_t0 (cx cy s w h : Int) (l : List (List (Int × Int))) (l_t : Bool) (p : List (Int × Int)) (p_t : Bool) : symF C_pby cuts_pict Try.f4.results.toList 2 400 [.code (codeOf Try.f4)] ⟨argsS Try.f4 [.agg [.int .i64 cx, .int .i64 cy, .int .i64 s, .int .i64 w, .int .i64 h], .c (.slc 0 0 (List.length l) l_t), .c (.slc 1 0 (List.length p) p_t)], ([.nin 1 l none, .inp 1 p] : Heap cod)⟩ =
.need (((0 = 0 ∧ List.length l = List.length l) ∧ ((0 = 0 ∧ List.length p = List.length p) ∧ (List.length l ≤ 12 ∧ List.length p ≤ 32)))) (
 cond (!decide (F.picE cx cy s w h l p = 0)) (
 .ret (.fin (.tup [.c (.own 2 0), .c (.int .i64 (F.picE cx cy s w h l p))]) [.own 5 [] 9])) (
 .ret (.cut (regAt Try.f4 5) ⟨tmG 120 [(1, .c (.slc 0 0 (List.length l) l_t)), (0, .c (.slc 1 0 (List.length p) p_t)), (0, .c (.ptr 2 0 0)), (5, .c (.ptr 4 0 0))], [.nin 1 (l) none, .inp 1 p, .blk [.int .i64 cx, .int .i64 cy, .int .i64 s, .int .i64 w, .int .i64 h] 25, .own 5 [] 9, .blk [.nil, .nil, .nil, .nil, .nil, .nil, .nil, .nil, .nil, .nil, .nil, .nil, .nil, .nil, .nil, .nil, .nil, .nil, .nil, .nil, .nil, .nil, .nil, .nil, .nil, .nil, .nil, .nil, .nil, .nil, .nil, .nil, .nil, .nil, .nil, .nil, .nil, .nil, .nil, .nil, .nil, .nil, .nil, .nil, .nil, .nil, .nil, .nil, .nil, .nil, .nil, .nil, .nil, .nil, .nil, .nil, .nil, .nil, .nil, .nil] 41]⟩))) := by kernel_rfl


noncomputable def st_pict_r5 (cx cy s w h : Int) (l : List (List (Int × Int))) (l_t : Bool) (p : List (Int × Int)) (p_t : Bool)  : St cod := ⟨tmG 120 [(1, .c (.slc 0 0 (List.length l) l_t)), (0, .c (.slc 1 0 (List.length p) p_t)), (0, .c (.ptr 2 0 0)), (5, .c (.ptr 4 0 0))], [.nin 1 (l) none, .inp 1 p, .blk [.int .i64 cx, .int .i64 cy, .int .i64 s, .int .i64 w, .int .i64 h] 25, .own 5 [] 9, .blk [.nil, .nil, .nil, .nil, .nil, .nil, .nil, .nil, .nil, .nil, .nil, .nil, .nil, .nil, .nil, .nil, .nil, .nil, .nil, .nil, .nil, .nil, .nil, .nil, .nil, .nil, .nil, .nil, .nil, .nil, .nil, .nil, .nil, .nil, .nil, .nil, .nil, .nil, .nil, .nil, .nil, .nil, .nil, .nil, .nil, .nil, .nil, .nil, .nil, .nil, .nil, .nil, .nil, .nil, .nil, .nil, .nil, .nil, .nil, .nil] 41]⟩


noncomputable def st_pict_r5b (cx cy s w h : Int) (l : List (List (Int × Int))) (l_t : Bool) (p : List (Int × Int)) (p_t : Bool) (LL : List (List Int)) : St cod := ⟨tmG 120 [(1, .c (.slc 0 0 (List.length l) l_t)), (0, .c (.slc 1 0 (List.length p) p_t)), (0, .c (.ptr 2 0 0)), (5, .c (.ptr 5 0 0))], ([.nin 1 l none, .inp 1 p, .blk [.int .i64 cx, .int .i64 cy, .int .i64 s, .int .i64 w, .int .i64 h] 25, .own 5 [] 9, .dead, .nown 9 LL [] [] (1000000 + 41) 5] : Heap cod)⟩


theorem pict_tr5b (cx cy s w h : Int) (l : List (List (Int × Int))) (l_t : Bool) (p : List (Int × Int)) (p_t : Bool) (LL : List (List Int)) : symF C_pby cuts_pict_r5b Try.f4.results.toList 2 400 (regAt Try.f4 5) (st_pict_r5b cx cy s w h l l_t p p_t LL) =
.ret (.cut (cutAt Try.f4 6) ⟨tmG 96 [(1, .c (.slc 0 0 (List.length l) l_t)), (0, .c (.slc 1 0 (List.length p) p_t)), (0, .c (.ptr 2 0 0)), (5, .c (.ptr 5 0 0)), (22, .c (.int .i64 h)), (0, .c (.int .i64 0))], [.nin 1 (l) none, .inp 1 p, .blk [.int .i64 cx, .int .i64 cy, .int .i64 s, .int .i64 w, .int .i64 h] 25, .own 5 [] 9, .dead, .nown 9 (LL) [] [] 1000041 5]⟩) := by kernel_rfl


noncomputable def st_pict_6 (cx cy s w h : Int) (l : List (List (Int × Int))) (l_t : Bool) (p : List (Int × Int)) (p_t : Bool) (LL : List (List Int)) (y : Int) : St cod := ⟨tmG 96 [(1, .c (.slc 0 0 (List.length l) l_t)), (0, .c (.slc 1 0 (List.length p) p_t)), (0, .c (.ptr 2 0 0)), (5, .c (.ptr 5 0 0)), (22, .c (.int .i64 h)), (0, .c (.int .i64 y))], [.nin 1 (l) none, .inp 1 p, .blk [.int .i64 cx, .int .i64 cy, .int .i64 s, .int .i64 w, .int .i64 h] 25, .own 5 [] 9, .dead, .nown 9 (LL) [] [] 1000041 5]⟩


theorem pict_t6 (cx cy s w h : Int) (l : List (List (Int × Int))) (l_t : Bool) (p : List (Int × Int)) (p_t : Bool) (LL : List (List Int)) (y : Int) : symF C_pby cuts_pict Try.f4.results.toList 2 400 (cutAt Try.f4 6) (st_pict_6 cx cy s w h l l_t p p_t LL y) =
 cond (decide (y < h)) (
 .ret (.cut (regAt Try.f4 8) ⟨tmG 96 [(1, .c (.slc 0 0 (List.length l) l_t)), (0, .c (.slc 1 0 (List.length p) p_t)), (0, .c (.ptr 2 0 0)), (5, .c (.ptr 5 0 0)), (0, .c (.int .i64 y)), (21, .c (.int .i64 h)), (0, .c (.int .i64 y))], [.nin 1 (l) none, .inp 1 p, .blk [.int .i64 cx, .int .i64 cy, .int .i64 s, .int .i64 w, .int .i64 h] 25, .own 5 [] 9, .dead, .nown 9 (LL) [] [] 1000041 5]⟩)) (
 .ret (.cut (cutAt Try.f4 11) ⟨tmG 83 [(2, .c (.slc 1 0 (List.length p) p_t)), (0, .c (.ptr 2 0 0)), (5, .c (.ptr 5 0 0)), (34, .c (.slc 0 0 (List.length l) l_t)), (0, .c (.int .i64 (Int.ofNat (List.length l)))), (0, .c (.int .i64 0))], [.nin 1 (l) none, .inp 1 p, .blk [.int .i64 cx, .int .i64 cy, .int .i64 s, .int .i64 w, .int .i64 h] 25, .own 5 [] 9, .dead, .nown 9 (LL) [] [] 1000041 5]⟩)) := by kernel_rfl


noncomputable def st_pict_r8 (cx cy s w h : Int) (l : List (List (Int × Int))) (l_t : Bool) (p : List (Int × Int)) (p_t : Bool) (LL : List (List Int)) (y : Int) : St cod := ⟨tmG 96 [(1, .c (.slc 0 0 (List.length l) l_t)), (0, .c (.slc 1 0 (List.length p) p_t)), (0, .c (.ptr 2 0 0)), (5, .c (.ptr 5 0 0)), (0, .c (.int .i64 y)), (21, .c (.int .i64 h)), (0, .c (.int .i64 y))], [.nin 1 (l) none, .inp 1 p, .blk [.int .i64 cx, .int .i64 cy, .int .i64 s, .int .i64 w, .int .i64 h] 25, .own 5 [] 9, .dead, .nown 9 (LL) [] [] 1000041 5]⟩


noncomputable def st_pict_r9 (cx cy s w h : Int) (l : List (List (Int × Int))) (l_t : Bool) (p : List (Int × Int)) (p_t : Bool) (LL : List (List Int)) (y : Int) : St cod := ⟨tmG 96 [(1, .c (.slc 0 0 (List.length l) l_t)), (0, .c (.slc 1 0 (List.length p) p_t)), (0, .c (.ptr 2 0 0)), (5, .c (.ptr 5 0 0)), (22, .c (.int .i64 h)), (0, .c (.int .i64 y))], [.nin 1 (l) none, .inp 1 p, .blk [.int .i64 cx, .int .i64 cy, .int .i64 s, .int .i64 w, .int .i64 h] 25, .own 5 [] 9, .dead, .nown 9 (LL) [] [] 1000041 5]⟩


theorem pict_tr9 (cx cy s w h : Int) (l : List (List (Int × Int))) (l_t : Bool) (p : List (Int × Int)) (p_t : Bool) (LL : List (List Int)) (y : Int) : symF C_pby cuts_pict_r9 Try.f4.results.toList 2 400 (regAt Try.f4 9) (st_pict_r9 cx cy s w h l l_t p p_t LL y) =
.need (i64ok (y + 1)) (
.ret (.cut (cutAt Try.f4 6) ⟨tmG 96 [(1, .c (.slc 0 0 (List.length l) l_t)), (0, .c (.slc 1 0 (List.length p) p_t)), (0, .c (.ptr 2 0 0)), (5, .c (.ptr 5 0 0)), (22, .c (.int .i64 h)), (0, .c (.int .i64 (y + 1)))], [.nin 1 (l) none, .inp 1 p, .blk [.int .i64 cx, .int .i64 cy, .int .i64 s, .int .i64 w, .int .i64 h] 25, .own 5 [] 9, .dead, .nown 9 (LL) [] [] 1000041 5]⟩)) := by kernel_rfl


noncomputable def st_pict_11 (cx cy s w h : Int) (l : List (List (Int × Int))) (l_t : Bool) (p : List (Int × Int)) (p_t : Bool) (LL : List (List Int)) (i : Int) : St cod := ⟨tmG 83 [(2, .c (.slc 1 0 (List.length p) p_t)), (0, .c (.ptr 2 0 0)), (5, .c (.ptr 5 0 0)), (34, .c (.slc 0 0 (List.length l) l_t)), (0, .c (.int .i64 (Int.ofNat (List.length l)))), (0, .c (.int .i64 i))], [.nin 1 (l) none, .inp 1 p, .blk [.int .i64 cx, .int .i64 cy, .int .i64 s, .int .i64 w, .int .i64 h] 25, .own 5 [] 9, .dead, .nown 9 (LL) [] [] 1000041 5]⟩


theorem pict_t11 (cx cy s w h : Int) (l : List (List (Int × Int))) (l_t : Bool) (p : List (Int × Int)) (p_t : Bool) (LL : List (List Int)) (i : Int) : symF C_pby cuts_pict Try.f4.results.toList 2 400 (cutAt Try.f4 11) (st_pict_11 cx cy s w h l l_t p p_t LL i) =
 cond (decide (i < Int.ofNat (List.length l))) (
 .ret (.cut (regAt Try.f4 12) ⟨tmG 83 [(2, .c (.slc 1 0 (List.length p) p_t)), (0, .c (.ptr 2 0 0)), (5, .c (.ptr 5 0 0)), (34, .c (.slc 0 0 (List.length l) l_t)), (0, .c (.int .i64 (Int.ofNat (List.length l)))), (0, .c (.int .i64 i))], [.nin 1 (l) none, .inp 1 p, .blk [.int .i64 cx, .int .i64 cy, .int .i64 s, .int .i64 w, .int .i64 h] 25, .own 5 [] 9, .dead, .nown 9 (LL) [] [] 1000041 5]⟩)) (
 .ret (.cut (cutAt Try.f4 27) ⟨tmG 32 [(3, .c (.ptr 2 0 0)), (5, .c (.ptr 5 0 0)), (85, .c (.slc 1 0 (List.length p) p_t)), (0, .c (.int .i64 (Int.ofNat (List.length p)))), (0, .c (.int .i64 0))], [.nin 1 (l) none, .inp 1 p, .blk [.int .i64 cx, .int .i64 cy, .int .i64 s, .int .i64 w, .int .i64 h] 25, .own 5 [] 9, .dead, .nown 9 (LL) [] [] 1000041 5]⟩)) := by kernel_rfl


noncomputable def st_pict_r12 (cx cy s w h : Int) (l : List (List (Int × Int))) (l_t : Bool) (p : List (Int × Int)) (p_t : Bool) (LL : List (List Int)) (i : Int) : St cod := ⟨tmG 83 [(2, .c (.slc 1 0 (List.length p) p_t)), (0, .c (.ptr 2 0 0)), (5, .c (.ptr 5 0 0)), (34, .c (.slc 0 0 (List.length l) l_t)), (0, .c (.int .i64 (Int.ofNat (List.length l)))), (0, .c (.int .i64 i))], [.nin 1 (l) none, .inp 1 p, .blk [.int .i64 cx, .int .i64 cy, .int .i64 s, .int .i64 w, .int .i64 h] 25, .own 5 [] 9, .dead, .nown 9 (LL) [] [] 1000041 5]⟩


noncomputable def st_pict_r12b (cx cy s w h : Int) (l : List (List (Int × Int))) (l_t : Bool) (p : List (Int × Int)) (p_t : Bool) (LL : List (List Int)) (i : Int) (j : Nat) (q : List (Int × Int)) : St cod := ⟨tmG 83 [(2, .c (.slc 1 0 (List.length p) p_t)), (0, .c (.ptr 2 0 0)), (5, .c (.ptr 5 0 0)), (34, .c (.slc 0 0 (List.length l) l_t)), (0, .c (.int .i64 (Int.ofNat (List.length l)))), (0, .c (.int .i64 i))], ([.nin 1 l (some (j, .slc 6 0 (List.length q) false)), .inp 1 p, .blk [.int .i64 cx, .int .i64 cy, .int .i64 s, .int .i64 w, .int .i64 h] 25, .own 5 [] 9, .dead, .nown 9 LL [] [] (1000000 + 41) 5, .inp 1 q] : Heap cod)⟩


theorem pict_tr12b (cx cy s w h : Int) (l : List (List (Int × Int))) (l_t : Bool) (p : List (Int × Int)) (p_t : Bool) (LL : List (List Int)) (i : Int) (j : Nat) (q : List (Int × Int)) : symF C_pby cuts_pict_r12b Try.f4.results.toList 2 400 (regAt Try.f4 12) (st_pict_r12b cx cy s w h l l_t p p_t LL i j q) =
.need (((0 : Int) ≤ i ∧ i < Int.ofNat (List.length l))) (
.need ((0 + Int.toNat i = j ∧ j < List.length l)) (
.ret (.cut (cutAt Try.f4 14) ⟨tmG 77 [(2, .c (.slc 1 0 (List.length p) p_t)), (0, .c (.ptr 2 0 0)), (5, .c (.ptr 5 0 0)), (2, .c (.slc 6 0 (List.length q) false)), (31, .c (.slc 0 0 (List.length l) l_t)), (0, .c (.int .i64 (Int.ofNat (List.length l)))), (0, .c (.int .i64 i)), (3, .c (.slc 6 0 (List.length q) false)), (0, .c (.int .i64 (Int.ofNat (List.length q)))), (0, .c (.int .i64 0))], [.nin 1 (l) (some ((j), .slc 6 0 (List.length q) false)), .inp 1 p, .blk [.int .i64 cx, .int .i64 cy, .int .i64 s, .int .i64 w, .int .i64 h] 25, .own 5 [] 9, .dead, .nown 9 (LL) [] [] 1000041 5, .inp 1 q]⟩))) := by kernel_rfl


noncomputable def st_pict_14 (cx cy s w h : Int) (l : List (List (Int × Int))) (l_t : Bool) (p : List (Int × Int)) (p_t : Bool) (LL : List (List Int)) (i : Int) (j : Nat) (q : List (Int × Int)) (k : Int) : St cod := ⟨tmG 77 [(2, .c (.slc 1 0 (List.length p) p_t)), (0, .c (.ptr 2 0 0)), (5, .c (.ptr 5 0 0)), (2, .c (.slc 6 0 (List.length q) false)), (31, .c (.slc 0 0 (List.length l) l_t)), (0, .c (.int .i64 (Int.ofNat (List.length l)))), (0, .c (.int .i64 i)), (3, .c (.slc 6 0 (List.length q) false)), (0, .c (.int .i64 (Int.ofNat (List.length q)))), (0, .c (.int .i64 k))], [.nin 1 (l) (some ((j), .slc 6 0 (List.length q) false)), .inp 1 p, .blk [.int .i64 cx, .int .i64 cy, .int .i64 s, .int .i64 w, .int .i64 h] 25, .own 5 [] 9, .dead, .nown 9 (LL) [] [] 1000041 5, .inp 1 q]⟩


theorem pict_t14 (cx cy s w h : Int) (l : List (List (Int × Int))) (l_t : Bool) (p : List (Int × Int)) (p_t : Bool) (LL : List (List Int)) (i : Int) (j : Nat) (q : List (Int × Int)) (k : Int) : symF C_pby cuts_pict Try.f4.results.toList 2 400 (cutAt Try.f4 14) (st_pict_14 cx cy s w h l l_t p p_t LL i j q k) =
 cond (decide (k < Int.ofNat (List.length q))) (
 .need (((0 : Int) ≤ k ∧ k < Int.ofNat (List.length q))) (
 .need (0 + Int.toNat k < List.length q) (
 .need ((F.vok cx cy s w h = true ∧ F.pt (List.getD q (0 + Int.toNat k) (cod 1).d).1 (List.getD q (0 + Int.toNat k) (cod 1).d).2 = 0)) (
 .need (i64ok (k + 1)) (
 .need (Int.ofNat (List.length q) ≠ 0) (
 .need (((0 : Int) ≤ Int.tmod (k + 1) (Int.ofNat (List.length q)) ∧ Int.tmod (k + 1) (Int.ofNat (List.length q)) < Int.ofNat (List.length q))) (
 .need (0 + Int.toNat (Int.tmod (k + 1) (Int.ofNat (List.length q))) < List.length q) (
 .need ((F.vok cx cy s w h = true ∧ F.pt (List.getD q (0 + Int.toNat (Int.tmod (k + 1) (Int.ofNat (List.length q)))) (cod 1).d).1     (List.getD q (0 + Int.toNat (Int.tmod (k + 1) (Int.ofNat (List.length q)))) (cod 1).d).2 =   0)) (
 cond (!decide     (F.lineE (F.scX cx (List.getD q (0 + Int.toNat k) (cod 1).d).1 s w)         (F.scX cy (List.getD q (0 + Int.toNat k) (cod 1).d).2 s h)         (F.scX cx (List.getD q (0 + Int.toNat (Int.tmod (k + 1) (Int.ofNat (List.length q)))) (cod 1).d).1 s w)         (F.scX cy (List.getD q (0 + Int.toNat (Int.tmod (k + 1) (Int.ofNat (List.length q)))) (cod 1).d).2 s h) =       0)) (
  .need (i64ok (k + 1)) (
  .ret (.cut (cutAt Try.f4 14) ⟨tmG 77 [(2, .c (.slc 1 0 (List.length p) p_t)), (0, .c (.ptr 2 0 0)), (5, .c (.ptr 5 0 0)), (2, .c (.slc 6 0 (List.length q) false)), (31, .c (.slc 0 0 (List.length l) l_t)), (0, .c (.int .i64 (Int.ofNat (List.length l)))), (0, .c (.int .i64 i)), (3, .c (.slc 6 0 (List.length q) false)), (0, .c (.int .i64 (Int.ofNat (List.length q)))), (0, .c (.int .i64 (k + 1)))], [.nin 1 (l) (some ((j), .slc 6 0 (List.length q) false)), .inp 1 p, .blk [.int .i64 cx, .int .i64 cy, .int .i64 s, .int .i64 w, .int .i64 h] 25, .own 5 [] 9, .dead, .nown 9 (LL) [] [] 1000041 5, .inp 1 q]⟩))) (
  .ret (.cut (cutAt Try.f4 19) ⟨tmG 51 [(2, .c (.slc 1 0 (List.length p) p_t)), (0, .c (.ptr 2 0 0)), (5, .c (.ptr 5 0 0)), (2, .c (.slc 6 0 (List.length q) false)), (31, .c (.slc 0 0 (List.length l) l_t)), (0, .c (.int .i64 (Int.ofNat (List.length l)))), (0, .c (.int .i64 i)), (3, .c (.slc 6 0 (List.length q) false)), (0, .c (.int .i64 (Int.ofNat (List.length q)))), (0, .c (.int .i64 k)), (23, .c (.own 8 (List.length   (F.line (F.scX cx (List.getD q (0 + Int.toNat k) (cod 1).d).1 s w)     (F.scX cy (List.getD q (0 + Int.toNat k) (cod 1).d).2 s h)     (F.scX cx (List.getD q (0 + Int.toNat (Int.tmod (k + 1) (Int.ofNat (List.length q)))) (cod 1).d).1 s w)     (F.scX cy (List.getD q (0 + Int.toNat (Int.tmod (k + 1) (Int.ofNat (List.length q)))) (cod 1).d).2 s h))))), (0, .c (.int .i64 (Int.ofNat   (List.length     (F.line (F.scX cx (List.getD q (0 + Int.toNat k) (cod 1).d).1 s w)       (F.scX cy (List.getD q (0 + Int.toNat k) (cod 1).d).2 s h)       (F.scX cx (List.getD q (0 + Int.toNat (Int.tmod (k + 1) (Int.ofNat (List.length q)))) (cod 1).d).1 s w)       (F.scX cy (List.getD q (0 + Int.toNat (Int.tmod (k + 1) (Int.ofNat (List.length q)))) (cod 1).d).2 s h)))))), (0, .c (.int .i64 0))], [.nin 1 (l) (some ((j), .slc 6 0 (List.length q) false)), .inp 1 p, .blk [.int .i64 cx, .int .i64 cy, .int .i64 s, .int .i64 w, .int .i64 h] 25, .own 5 [] 9, .dead, .nown 9 (LL) [] [] 1000041 5, .inp 1 q, .blk [.int .i64 ((List.getD q (0 + Int.toNat k) (cod 1).d).1), .int .i64 ((List.getD q (0 + Int.toNat k) (cod 1).d).2)] 23, .own 1 (F.line (F.scX cx (List.getD q (0 + Int.toNat k) (cod 1).d).1 s w)   (F.scX cy (List.getD q (0 + Int.toNat k) (cod 1).d).2 s h)   (F.scX cx (List.getD q (0 + Int.toNat (Int.tmod (k + 1) (Int.ofNat (List.length q)))) (cod 1).d).1 s w)   (F.scX cy (List.getD q (0 + Int.toNat (Int.tmod (k + 1) (Int.ofNat (List.length q)))) (cod 1).d).2 s h)) 37]⟩))))))))))) (
 .ret (.cut (regAt Try.f4 25) ⟨tmG 83 [(2, .c (.slc 1 0 (List.length p) p_t)), (0, .c (.ptr 2 0 0)), (5, .c (.ptr 5 0 0)), (34, .c (.slc 0 0 (List.length l) l_t)), (0, .c (.int .i64 (Int.ofNat (List.length l)))), (0, .c (.int .i64 i))], [.nin 1 (l) (some ((j), .slc 6 0 (List.length q) false)), .inp 1 p, .blk [.int .i64 cx, .int .i64 cy, .int .i64 s, .int .i64 w, .int .i64 h] 25, .own 5 [] 9, .dead, .nown 9 (LL) [] [] 1000041 5, .inp 1 q]⟩)) := by kernel_rfl


noncomputable def st_pict_19 (cx cy s w h : Int) (l : List (List (Int × Int))) (l_t : Bool) (p : List (Int × Int)) (p_t : Bool) (LL : List (List Int)) (i : Int) (j : Nat) (q : List (Int × Int)) (k a1 a2 : Int) (L : List (Int × Int)) (m : Int) : St cod := ⟨tmG 51 [(2, .c (.slc 1 0 (List.length p) p_t)), (0, .c (.ptr 2 0 0)), (5, .c (.ptr 5 0 0)), (2, .c (.slc 6 0 (List.length q) false)), (31, .c (.slc 0 0 (List.length l) l_t)), (0, .c (.int .i64 (Int.ofNat (List.length l)))), (0, .c (.int .i64 i)), (3, .c (.slc 6 0 (List.length q) false)), (0, .c (.int .i64 (Int.ofNat (List.length q)))), (0, .c (.int .i64 k)), (23, .c (.own 8 (List.length L))), (0, .c (.int .i64 (Int.ofNat (List.length L)))), (0, .c (.int .i64 m))], ([.nin 1 l (some (j, .slc 6 0 (List.length q) false)), .inp 1 p, .blk [.int .i64 cx, .int .i64 cy, .int .i64 s, .int .i64 w, .int .i64 h] 25, .own 5 [] 9, .dead, .nown 9 LL [] [] (1000000 + 41) 5, .inp 1 q, .blk [.int .i64 a1, .int .i64 a2] 23, .own 1 L 37] : Heap cod)⟩


theorem pict_t19 (cx cy s w h : Int) (l : List (List (Int × Int))) (l_t : Bool) (p : List (Int × Int)) (p_t : Bool) (LL : List (List Int)) (i : Int) (j : Nat) (q : List (Int × Int)) (k a1 a2 : Int) (L : List (Int × Int)) (m : Int) : symF C_pby cuts_pict Try.f4.results.toList 2 400 (cutAt Try.f4 19) (st_pict_19 cx cy s w h l l_t p p_t LL i j q k a1 a2 L m) =
 cond (decide (m < Int.ofNat (List.length L))) (
 .need (((0 : Int) ≤ m ∧ m < Int.ofNat (List.length L))) (
 .need (0 + Int.toNat m < List.length L) (
 cond (F.vis (List.getD L (0 + Int.toNat m) (cod 1).d).1 (List.getD L (0 + Int.toNat m) (cod 1).d).2 w h) (
  .ret (.cut (regAt Try.f4 22) ⟨tmG 51 [(2, .c (.slc 1 0 (List.length p) p_t)), (0, .c (.ptr 2 0 0)), (5, .c (.ptr 5 0 0)), (2, .c (.slc 6 0 (List.length q) false)), (5, .c (.ptr 9 0 0)), (25, .c (.slc 0 0 (List.length l) l_t)), (0, .c (.int .i64 (Int.ofNat (List.length l)))), (0, .c (.int .i64 i)), (3, .c (.slc 6 0 (List.length q) false)), (0, .c (.int .i64 (Int.ofNat (List.length q)))), (0, .c (.int .i64 k)), (23, .c (.own 8 (List.length L))), (0, .c (.int .i64 (Int.ofNat (List.length L)))), (0, .c (.int .i64 m))], [.nin 1 (l) (some ((j), .slc 6 0 (List.length q) false)), .inp 1 p, .blk [.int .i64 cx, .int .i64 cy, .int .i64 s, .int .i64 w, .int .i64 h] 25, .own 5 [] 9, .dead, .nown 9 (LL) [] [] 1000041 5, .inp 1 q, .blk [.int .i64 a1, .int .i64 a2] 23, .own 1 L 37, .blk [.int .i64 ((List.getD L (0 + Int.toNat m) (cod 1).d).1), .int .i64 ((List.getD L (0 + Int.toNat m) (cod 1).d).2)] 37]⟩)) (
  .ret (.cut (regAt Try.f4 23) ⟨tmG 51 [(2, .c (.slc 1 0 (List.length p) p_t)), (0, .c (.ptr 2 0 0)), (5, .c (.ptr 5 0 0)), (2, .c (.slc 6 0 (List.length q) false)), (31, .c (.slc 0 0 (List.length l) l_t)), (0, .c (.int .i64 (Int.ofNat (List.length l)))), (0, .c (.int .i64 i)), (3, .c (.slc 6 0 (List.length q) false)), (0, .c (.int .i64 (Int.ofNat (List.length q)))), (0, .c (.int .i64 k)), (23, .c (.own 8 (List.length L))), (0, .c (.int .i64 (Int.ofNat (List.length L)))), (0, .c (.int .i64 m))], [.nin 1 (l) (some ((j), .slc 6 0 (List.length q) false)), .inp 1 p, .blk [.int .i64 cx, .int .i64 cy, .int .i64 s, .int .i64 w, .int .i64 h] 25, .own 5 [] 9, .dead, .nown 9 (LL) [] [] 1000041 5, .inp 1 q, .blk [.int .i64 a1, .int .i64 a2] 23, .own 1 L 37, .blk [.int .i64 ((List.getD L (0 + Int.toNat m) (cod 1).d).1), .int .i64 ((List.getD L (0 + Int.toNat m) (cod 1).d).2)] 37]⟩))))) (
 .need (i64ok (k + 1)) (
 .ret (.cut (cutAt Try.f4 14) ⟨tmG 77 [(2, .c (.slc 1 0 (List.length p) p_t)), (0, .c (.ptr 2 0 0)), (5, .c (.ptr 5 0 0)), (2, .c (.slc 6 0 (List.length q) false)), (31, .c (.slc 0 0 (List.length l) l_t)), (0, .c (.int .i64 (Int.ofNat (List.length l)))), (0, .c (.int .i64 i)), (3, .c (.slc 6 0 (List.length q) false)), (0, .c (.int .i64 (Int.ofNat (List.length q)))), (0, .c (.int .i64 (k + 1)))], [.nin 1 (l) (some ((j), .slc 6 0 (List.length q) false)), .inp 1 p, .blk [.int .i64 cx, .int .i64 cy, .int .i64 s, .int .i64 w, .int .i64 h] 25, .own 5 [] 9, .dead, .nown 9 (LL) [] [] 1000041 5, .inp 1 q]⟩))) := by kernel_rfl


noncomputable def st_pict_r22 (cx cy s w h : Int) (l : List (List (Int × Int))) (l_t : Bool) (p : List (Int × Int)) (p_t : Bool) (LL : List (List Int)) (i : Int) (j : Nat) (q : List (Int × Int)) (k a1 a2 : Int) (L : List (Int × Int)) (m c1 c2 : Int) : St cod := ⟨tmG 51 [(2, .c (.slc 1 0 (List.length p) p_t)), (0, .c (.ptr 2 0 0)), (5, .c (.ptr 5 0 0)), (2, .c (.slc 6 0 (List.length q) false)), (5, .c (.ptr 9 0 0)), (25, .c (.slc 0 0 (List.length l) l_t)), (0, .c (.int .i64 (Int.ofNat (List.length l)))), (0, .c (.int .i64 i)), (3, .c (.slc 6 0 (List.length q) false)), (0, .c (.int .i64 (Int.ofNat (List.length q)))), (0, .c (.int .i64 k)), (23, .c (.own 8 (List.length L))), (0, .c (.int .i64 (Int.ofNat (List.length L)))), (0, .c (.int .i64 m))], ([.nin 1 l (some (j, .slc 6 0 (List.length q) false)), .inp 1 p, .blk [.int .i64 cx, .int .i64 cy, .int .i64 s, .int .i64 w, .int .i64 h] 25, .own 5 [] 9, .dead, .nown 9 LL [] [] (1000000 + 41) 5, .inp 1 q, .blk [.int .i64 a1, .int .i64 a2] 23, .own 1 L 37, .blk [.int .i64 c1, .int .i64 c2] 37] : Heap cod)⟩


noncomputable def st_pict_r22b (cx cy s w h : Int) (l : List (List (Int × Int))) (l_t : Bool) (p : List (Int × Int)) (p_t : Bool) (LL : List (List Int)) (i : Int) (j : Nat) (q : List (Int × Int)) (k a1 a2 : Int) (L : List (Int × Int)) (m c1 c2 : Int) (u : Nat) (R : List Int) : St cod := ⟨tmG 51 [(2, .c (.slc 1 0 (List.length p) p_t)), (0, .c (.ptr 2 0 0)), (5, .c (.ptr 5 0 0)), (2, .c (.slc 6 0 (List.length q) false)), (5, .c (.ptr 9 0 0)), (25, .c (.slc 0 0 (List.length l) l_t)), (0, .c (.int .i64 (Int.ofNat (List.length l)))), (0, .c (.int .i64 i)), (3, .c (.slc 6 0 (List.length q) false)), (0, .c (.int .i64 (Int.ofNat (List.length q)))), (0, .c (.int .i64 k)), (23, .c (.own 8 (List.length L))), (0, .c (.int .i64 (Int.ofNat (List.length L)))), (0, .c (.int .i64 m))], ([.nin 1 l (some (j, .slc 6 0 (List.length q) false)), .inp 1 p, .blk [.int .i64 cx, .int .i64 cy, .int .i64 s, .int .i64 w, .int .i64 h] 25, .own 5 [] 9, .dead, .nown 9 LL [u] [.slc 10 0 (List.length R) false] (1000000 + 41) 5, .inp 1 q, .blk [.int .i64 a1, .int .i64 a2] 23, .own 1 L 37, .blk [.int .i64 c1, .int .i64 c2] 37, .own 9 R 5] : Heap cod)⟩


theorem pict_tr22b (cx cy s w h : Int) (l : List (List (Int × Int))) (l_t : Bool) (p : List (Int × Int)) (p_t : Bool) (LL : List (List Int)) (i : Int) (j : Nat) (q : List (Int × Int)) (k a1 a2 : Int) (L : List (Int × Int)) (m c1 c2 : Int) (u : Nat) (R : List Int) : symF C_pby cuts_pict_r22b Try.f4.results.toList 2 400 (regAt Try.f4 22) (st_pict_r22b cx cy s w h l l_t p p_t LL i j q k a1 a2 L m c1 c2 u R) =
.need (((0 : Int) ≤ c2 ∧ c2 < Int.ofNat 60)) (
.need ((0 + Int.toNat c2 = u ∧ u < List.length LL)) (
.need (((0 : Int) ≤ c1 ∧ c1 < Int.ofNat (List.length R))) (
.need (0 + Int.toNat c1 < List.length R) (
.ret (.cut (regAt Try.f4 23) ⟨tmG 51 [(2, .c (.slc 1 0 (List.length p) p_t)), (0, .c (.ptr 2 0 0)), (5, .c (.ptr 5 0 0)), (2, .c (.slc 6 0 (List.length q) false)), (31, .c (.slc 0 0 (List.length l) l_t)), (0, .c (.int .i64 (Int.ofNat (List.length l)))), (0, .c (.int .i64 i)), (3, .c (.slc 6 0 (List.length q) false)), (0, .c (.int .i64 (Int.ofNat (List.length q)))), (0, .c (.int .i64 k)), (23, .c (.own 8 (List.length L))), (0, .c (.int .i64 (Int.ofNat (List.length L)))), (0, .c (.int .i64 m))], [.nin 1 (l) (some ((j), .slc 6 0 (List.length q) false)), .inp 1 p, .blk [.int .i64 cx, .int .i64 cy, .int .i64 s, .int .i64 w, .int .i64 h] 25, .own 5 [] 9, .dead, .nown 9 (LL) [(u)] [.slc 10 0 (List.length R) false] 1000041 5, .inp 1 q, .blk [.int .i64 a1, .int .i64 a2] 23, .own 1 L 37, .blk [.int .i64 c1, .int .i64 c2] 37, .own 9 (List.set R (0 + Int.toNat c1) (46 : Int)) 5]⟩))))) := by kernel_rfl


noncomputable def st_pict_r23 (cx cy s w h : Int) (l : List (List (Int × Int))) (l_t : Bool) (p : List (Int × Int)) (p_t : Bool) (LL : List (List Int)) (i : Int) (j : Nat) (q : List (Int × Int)) (k a1 a2 : Int) (L : List (Int × Int)) (m : Int) : St cod := ⟨tmG 51 [(2, .c (.slc 1 0 (List.length p) p_t)), (0, .c (.ptr 2 0 0)), (5, .c (.ptr 5 0 0)), (2, .c (.slc 6 0 (List.length q) false)), (31, .c (.slc 0 0 (List.length l) l_t)), (0, .c (.int .i64 (Int.ofNat (List.length l)))), (0, .c (.int .i64 i)), (3, .c (.slc 6 0 (List.length q) false)), (0, .c (.int .i64 (Int.ofNat (List.length q)))), (0, .c (.int .i64 k)), (23, .c (.own 8 (List.length L))), (0, .c (.int .i64 (Int.ofNat (List.length L)))), (0, .c (.int .i64 m))], [.nin 1 (l) (some ((j), .slc 6 0 (List.length q) false)), .inp 1 p, .blk [.int .i64 cx, .int .i64 cy, .int .i64 s, .int .i64 w, .int .i64 h] 25, .own 5 [] 9, .dead, .nown 9 (LL) [] [] 1000041 5, .inp 1 q, .blk [.int .i64 a1, .int .i64 a2] 23, .own 1 L 37]⟩


theorem pict_tr23 (cx cy s w h : Int) (l : List (List (Int × Int))) (l_t : Bool) (p : List (Int × Int)) (p_t : Bool) (LL : List (List Int)) (i : Int) (j : Nat) (q : List (Int × Int)) (k a1 a2 : Int) (L : List (Int × Int)) (m : Int) : symF C_pby cuts_pict_r23 Try.f4.results.toList 2 400 (regAt Try.f4 23) (st_pict_r23 cx cy s w h l l_t p p_t LL i j q k a1 a2 L m) =
.need (i64ok (m + 1)) (
.ret (.cut (cutAt Try.f4 19) ⟨tmG 51 [(2, .c (.slc 1 0 (List.length p) p_t)), (0, .c (.ptr 2 0 0)), (5, .c (.ptr 5 0 0)), (2, .c (.slc 6 0 (List.length q) false)), (31, .c (.slc 0 0 (List.length l) l_t)), (0, .c (.int .i64 (Int.ofNat (List.length l)))), (0, .c (.int .i64 i)), (3, .c (.slc 6 0 (List.length q) false)), (0, .c (.int .i64 (Int.ofNat (List.length q)))), (0, .c (.int .i64 k)), (23, .c (.own 8 (List.length L))), (0, .c (.int .i64 (Int.ofNat (List.length L)))), (0, .c (.int .i64 (m + 1)))], [.nin 1 (l) (some ((j), .slc 6 0 (List.length q) false)), .inp 1 p, .blk [.int .i64 cx, .int .i64 cy, .int .i64 s, .int .i64 w, .int .i64 h] 25, .own 5 [] 9, .dead, .nown 9 (LL) [] [] 1000041 5, .inp 1 q, .blk [.int .i64 a1, .int .i64 a2] 23, .own 1 L 37]⟩)) := by kernel_rfl


noncomputable def st_pict_r25 (cx cy s w h : Int) (l : List (List (Int × Int))) (l_t : Bool) (p : List (Int × Int)) (p_t : Bool) (LL : List (List Int)) (i : Int) : St cod := ⟨tmG 83 [(2, .c (.slc 1 0 (List.length p) p_t)), (0, .c (.ptr 2 0 0)), (5, .c (.ptr 5 0 0)), (34, .c (.slc 0 0 (List.length l) l_t)), (0, .c (.int .i64 (Int.ofNat (List.length l)))), (0, .c (.int .i64 i))], [.nin 1 (l) none, .inp 1 p, .blk [.int .i64 cx, .int .i64 cy, .int .i64 s, .int .i64 w, .int .i64 h] 25, .own 5 [] 9, .dead, .nown 9 (LL) [] [] 1000041 5]⟩


theorem pict_tr25 (cx cy s w h : Int) (l : List (List (Int × Int))) (l_t : Bool) (p : List (Int × Int)) (p_t : Bool) (LL : List (List Int)) (i : Int) : symF C_pby cuts_pict_r25 Try.f4.results.toList 2 400 (regAt Try.f4 25) (st_pict_r25 cx cy s w h l l_t p p_t LL i) =
.need (i64ok (i + 1)) (
.ret (.cut (cutAt Try.f4 11) ⟨tmG 83 [(2, .c (.slc 1 0 (List.length p) p_t)), (0, .c (.ptr 2 0 0)), (5, .c (.ptr 5 0 0)), (34, .c (.slc 0 0 (List.length l) l_t)), (0, .c (.int .i64 (Int.ofNat (List.length l)))), (0, .c (.int .i64 (i + 1)))], [.nin 1 (l) none, .inp 1 p, .blk [.int .i64 cx, .int .i64 cy, .int .i64 s, .int .i64 w, .int .i64 h] 25, .own 5 [] 9, .dead, .nown 9 (LL) [] [] 1000041 5]⟩)) := by kernel_rfl


noncomputable def st_pict_27 (cx cy s w h : Int) (l : List (List (Int × Int))) (l_t : Bool) (p : List (Int × Int)) (p_t : Bool) (LL : List (List Int)) (k : Int) : St cod := ⟨tmG 32 [(3, .c (.ptr 2 0 0)), (5, .c (.ptr 5 0 0)), (85, .c (.slc 1 0 (List.length p) p_t)), (0, .c (.int .i64 (Int.ofNat (List.length p)))), (0, .c (.int .i64 k))], [.nin 1 (l) none, .inp 1 p, .blk [.int .i64 cx, .int .i64 cy, .int .i64 s, .int .i64 w, .int .i64 h] 25, .own 5 [] 9, .dead, .nown 9 (LL) [] [] 1000041 5]⟩


theorem pict_t27 (cx cy s w h : Int) (l : List (List (Int × Int))) (l_t : Bool) (p : List (Int × Int)) (p_t : Bool) (LL : List (List Int)) (k : Int) : symF C_pby cuts_pict Try.f4.results.toList 2 400 (cutAt Try.f4 27) (st_pict_27 cx cy s w h l l_t p p_t LL k) =
 cond (decide (k < Int.ofNat (List.length p))) (
 .need (((0 : Int) ≤ k ∧ k < Int.ofNat (List.length p))) (
 .need (0 + Int.toNat k < List.length p) (
 .need ((F.vok cx cy s w h = true ∧ F.pt (List.getD p (0 + Int.toNat k) (cod 1).d).1 (List.getD p (0 + Int.toNat k) (cod 1).d).2 = 0)) (
 cond (F.vis (F.scX cx (List.getD p (0 + Int.toNat k) (cod 1).d).1 s w)   (F.scX cy (List.getD p (0 + Int.toNat k) (cod 1).d).2 s h) w h) (
  .ret (.cut (regAt Try.f4 31) ⟨tmG 32 [(3, .c (.ptr 2 0 0)), (5, .c (.ptr 5 0 0)), (11, .c (.ptr 7 0 0)), (73, .c (.slc 1 0 (List.length p) p_t)), (0, .c (.int .i64 (Int.ofNat (List.length p)))), (0, .c (.int .i64 k))], [.nin 1 (l) none, .inp 1 p, .blk [.int .i64 cx, .int .i64 cy, .int .i64 s, .int .i64 w, .int .i64 h] 25, .own 5 [] 9, .dead, .nown 9 (LL) [] [] 1000041 5, .blk [.int .i64 ((List.getD p (0 + Int.toNat k) (cod 1).d).1), .int .i64 ((List.getD p (0 + Int.toNat k) (cod 1).d).2)] 23, .blk [.int .i64 (F.scX cx (List.getD p (0 + Int.toNat k) (cod 1).d).1 s w), .int .i64 (F.scX cy (List.getD p (0 + Int.toNat k) (cod 1).d).2 s h)] 37]⟩)) (
  .ret (.cut (regAt Try.f4 32) ⟨tmG 32 [(3, .c (.ptr 2 0 0)), (5, .c (.ptr 5 0 0)), (85, .c (.slc 1 0 (List.length p) p_t)), (0, .c (.int .i64 (Int.ofNat (List.length p)))), (0, .c (.int .i64 k))], [.nin 1 (l) none, .inp 1 p, .blk [.int .i64 cx, .int .i64 cy, .int .i64 s, .int .i64 w, .int .i64 h] 25, .own 5 [] 9, .dead, .nown 9 (LL) [] [] 1000041 5, .blk [.int .i64 ((List.getD p (0 + Int.toNat k) (cod 1).d).1), .int .i64 ((List.getD p (0 + Int.toNat k) (cod 1).d).2)] 23, .blk [.int .i64 (F.scX cx (List.getD p (0 + Int.toNat k) (cod 1).d).1 s w), .int .i64 (F.scX cy (List.getD p (0 + Int.toNat k) (cod 1).d).2 s h)] 37]⟩)))))) (
 .need (i64ok (h - 1)) (
 .ret (.cut (cutAt Try.f4 35) ⟨tmG 106 [(9, .c (.ptr 5 0 0)), (12, .c (.own 6 0)), (0, .c (.int .i64 (h - 1)))], [.nin 1 (l) none, .inp 1 p, .blk [.int .i64 cx, .int .i64 cy, .int .i64 s, .int .i64 w, .int .i64 h] 25, .own 5 [] 9, .dead, .nown 9 (LL) [] [] 1000041 5, .own 5 [] 9]⟩))) := by kernel_rfl


noncomputable def st_pict_r31 (cx cy s w h : Int) (l : List (List (Int × Int))) (l_t : Bool) (p : List (Int × Int)) (p_t : Bool) (LL : List (List Int)) (k a1 a2 c1 c2 : Int) : St cod := ⟨tmG 32 [(3, .c (.ptr 2 0 0)), (5, .c (.ptr 5 0 0)), (11, .c (.ptr 7 0 0)), (73, .c (.slc 1 0 (List.length p) p_t)), (0, .c (.int .i64 (Int.ofNat (List.length p)))), (0, .c (.int .i64 k))], ([.nin 1 l none, .inp 1 p, .blk [.int .i64 cx, .int .i64 cy, .int .i64 s, .int .i64 w, .int .i64 h] 25, .own 5 [] 9, .dead, .nown 9 LL [] [] (1000000 + 41) 5, .blk [.int .i64 a1, .int .i64 a2] 23, .blk [.int .i64 c1, .int .i64 c2] 37] : Heap cod)⟩


noncomputable def st_pict_r31b (cx cy s w h : Int) (l : List (List (Int × Int))) (l_t : Bool) (p : List (Int × Int)) (p_t : Bool) (LL : List (List Int)) (k a1 a2 c1 c2 : Int) (u : Nat) (R : List Int) : St cod := ⟨tmG 32 [(3, .c (.ptr 2 0 0)), (5, .c (.ptr 5 0 0)), (11, .c (.ptr 7 0 0)), (73, .c (.slc 1 0 (List.length p) p_t)), (0, .c (.int .i64 (Int.ofNat (List.length p)))), (0, .c (.int .i64 k))], ([.nin 1 l none, .inp 1 p, .blk [.int .i64 cx, .int .i64 cy, .int .i64 s, .int .i64 w, .int .i64 h] 25, .own 5 [] 9, .dead, .nown 9 LL [u] [.slc 8 0 (List.length R) false] (1000000 + 41) 5, .blk [.int .i64 a1, .int .i64 a2] 23, .blk [.int .i64 c1, .int .i64 c2] 37, .own 9 R 5] : Heap cod)⟩


theorem pict_tr31b (cx cy s w h : Int) (l : List (List (Int × Int))) (l_t : Bool) (p : List (Int × Int)) (p_t : Bool) (LL : List (List Int)) (k a1 a2 c1 c2 : Int) (u : Nat) (R : List Int) : symF C_pby cuts_pict_r31b Try.f4.results.toList 2 400 (regAt Try.f4 31) (st_pict_r31b cx cy s w h l l_t p p_t LL k a1 a2 c1 c2 u R) =
.need (((0 : Int) ≤ c2 ∧ c2 < Int.ofNat 60)) (
.need ((0 + Int.toNat c2 = u ∧ u < List.length LL)) (
.need (((0 : Int) ≤ c1 ∧ c1 < Int.ofNat (List.length R))) (
.need (0 + Int.toNat c1 < List.length R) (
.ret (.cut (regAt Try.f4 32) ⟨tmG 32 [(3, .c (.ptr 2 0 0)), (5, .c (.ptr 5 0 0)), (85, .c (.slc 1 0 (List.length p) p_t)), (0, .c (.int .i64 (Int.ofNat (List.length p)))), (0, .c (.int .i64 k))], [.nin 1 (l) none, .inp 1 p, .blk [.int .i64 cx, .int .i64 cy, .int .i64 s, .int .i64 w, .int .i64 h] 25, .own 5 [] 9, .dead, .nown 9 (LL) [(u)] [.slc 8 0 (List.length R) false] 1000041 5, .blk [.int .i64 a1, .int .i64 a2] 23, .blk [.int .i64 c1, .int .i64 c2] 37, .own 9 (List.set R (0 + Int.toNat c1) (111 : Int)) 5]⟩))))) := by kernel_rfl


noncomputable def st_pict_r32 (cx cy s w h : Int) (l : List (List (Int × Int))) (l_t : Bool) (p : List (Int × Int)) (p_t : Bool) (LL : List (List Int)) (k : Int) : St cod := ⟨tmG 32 [(3, .c (.ptr 2 0 0)), (5, .c (.ptr 5 0 0)), (85, .c (.slc 1 0 (List.length p) p_t)), (0, .c (.int .i64 (Int.ofNat (List.length p)))), (0, .c (.int .i64 k))], [.nin 1 (l) none, .inp 1 p, .blk [.int .i64 cx, .int .i64 cy, .int .i64 s, .int .i64 w, .int .i64 h] 25, .own 5 [] 9, .dead, .nown 9 (LL) [] [] 1000041 5]⟩


theorem pict_tr32 (cx cy s w h : Int) (l : List (List (Int × Int))) (l_t : Bool) (p : List (Int × Int)) (p_t : Bool) (LL : List (List Int)) (k : Int) : symF C_pby cuts_pict_r32 Try.f4.results.toList 2 400 (regAt Try.f4 32) (st_pict_r32 cx cy s w h l l_t p p_t LL k) =
.need (i64ok (k + 1)) (
.ret (.cut (cutAt Try.f4 27) ⟨tmG 32 [(3, .c (.ptr 2 0 0)), (5, .c (.ptr 5 0 0)), (85, .c (.slc 1 0 (List.length p) p_t)), (0, .c (.int .i64 (Int.ofNat (List.length p)))), (0, .c (.int .i64 (k + 1)))], [.nin 1 (l) none, .inp 1 p, .blk [.int .i64 cx, .int .i64 cy, .int .i64 s, .int .i64 w, .int .i64 h] 25, .own 5 [] 9, .dead, .nown 9 (LL) [] [] 1000041 5]⟩)) := by kernel_rfl


noncomputable def st_pict_35 (cx cy s w h : Int) (l : List (List (Int × Int))) (l_t : Bool) (p : List (Int × Int)) (p_t : Bool) (LL : List (List Int)) (y : Int) (o : List (List UInt8)) : St cod := ⟨tmG 106 [(9, .c (.ptr 5 0 0)), (12, .c (.own 6 (List.length o))), (0, .c (.int .i64 y))], ([.nin 1 l none, .inp 1 p, .blk [.int .i64 cx, .int .i64 cy, .int .i64 s, .int .i64 w, .int .i64 h] 25, .own 5 [] 9, .dead, .nown 9 LL [] [] (1000000 + 41) 5, .own 5 o 9] : Heap cod)⟩


theorem pict_t35 (cx cy s w h : Int) (l : List (List (Int × Int))) (l_t : Bool) (p : List (Int × Int)) (p_t : Bool) (LL : List (List Int)) (y : Int) (o : List (List UInt8)) : symF C_pby cuts_pict Try.f4.results.toList 2 400 (cutAt Try.f4 35) (st_pict_35 cx cy s w h l l_t p p_t LL y o) =
 cond (decide (0 ≤ y)) (
 .ret (.cut (regAt Try.f4 37) ⟨tmG 106 [(9, .c (.ptr 5 0 0)), (12, .c (.own 6 (List.length o))), (0, .c (.int .i64 y))], [.nin 1 (l) none, .inp 1 p, .blk [.int .i64 cx, .int .i64 cy, .int .i64 s, .int .i64 w, .int .i64 h] 25, .own 5 [] 9, .dead, .nown 9 (LL) [] [] 1000041 5, .own 5 o 9]⟩)) (
 .ret (.fin (.tup [.c (.own 2 (List.length o)), .c (.int .i64 0)]) [.own 5 o 9])) := by kernel_rfl


noncomputable def st_pict_r37 (cx cy s w h : Int) (l : List (List (Int × Int))) (l_t : Bool) (p : List (Int × Int)) (p_t : Bool) (LL : List (List Int)) (y : Int) (o : List (List UInt8)) : St cod := ⟨tmG 106 [(9, .c (.ptr 5 0 0)), (12, .c (.own 6 (List.length o))), (0, .c (.int .i64 y))], [.nin 1 (l) none, .inp 1 p, .blk [.int .i64 cx, .int .i64 cy, .int .i64 s, .int .i64 w, .int .i64 h] 25, .own 5 [] 9, .dead, .nown 9 (LL) [] [] 1000041 5, .own 5 o 9]⟩


noncomputable def st_pict_r37b (cx cy s w h : Int) (l : List (List (Int × Int))) (l_t : Bool) (p : List (Int × Int)) (p_t : Bool) (LL : List (List Int)) (y : Int) (o : List (List UInt8)) (u : Nat) (R : List Int) : St cod := ⟨tmG 106 [(9, .c (.ptr 5 0 0)), (12, .c (.own 6 (List.length o))), (0, .c (.int .i64 y))], ([.nin 1 l none, .inp 1 p, .blk [.int .i64 cx, .int .i64 cy, .int .i64 s, .int .i64 w, .int .i64 h] 25, .own 5 [] 9, .dead, .nown 9 LL [u] [.slc 7 0 (List.length R) false] (1000000 + 41) 5, .own 5 o 9, .own 9 R 5] : Heap cod)⟩


theorem pict_tr37b (cx cy s w h : Int) (l : List (List (Int × Int))) (l_t : Bool) (p : List (Int × Int)) (p_t : Bool) (LL : List (List Int)) (y : Int) (o : List (List UInt8)) (u : Nat) (R : List Int) : symF C_pby cuts_pict_r37b Try.f4.results.toList 2 400 (regAt Try.f4 37) (st_pict_r37b cx cy s w h l l_t p p_t LL y o u R) =
.need (((0 : Int) ≤ y ∧ y < Int.ofNat 60)) (
.need ((0 + Int.toNat y = u ∧ u < List.length LL)) (
.need (List.length (List.take (List.length R) (List.drop 0 R)) = List.length R) (
.need (∀ (a : (cod ((fun x => x.snd) (5, 9))).α), ∃ n, (cod 9).enc a = [Cell.int IntKind.u8 n]) (
.need (1 = 1) (
.need (List.length o + 1 ≤ 1000000) (
.ret (.cut (regAt Try.f4 36) ⟨tmG 106 [(9, .c (.ptr 5 0 0)), (12, .c (.own 6 (List.length o + 1))), (0, .c (.int .i64 y))], [.nin 1 (l) none, .inp 1 p, .blk [.int .i64 cx, .int .i64 cy, .int .i64 s, .int .i64 w, .int .i64 h] 25, .own 5 [] 9, .dead, .nown 9 (LL) [(u)] [.slc 7 0 (List.length R) false] 1000041 5, .own 5 (o ++ ([List.map     (Sym.byteOf (cod 9))     (List.take (List.length R) (List.drop 0 R))])) 9, .own 9 R 5]⟩))))))) := by kernel_rfl


noncomputable def st_pict_r36 (cx cy s w h : Int) (l : List (List (Int × Int))) (l_t : Bool) (p : List (Int × Int)) (p_t : Bool) (LL : List (List Int)) (y : Int) (o : List (List UInt8)) : St cod := ⟨tmG 106 [(9, .c (.ptr 5 0 0)), (12, .c (.own 6 (List.length o))), (0, .c (.int .i64 y))], [.nin 1 (l) none, .inp 1 p, .blk [.int .i64 cx, .int .i64 cy, .int .i64 s, .int .i64 w, .int .i64 h] 25, .own 5 [] 9, .dead, .nown 9 (LL) [] [] 1000041 5, .own 5 o 9]⟩


theorem pict_tr36 (cx cy s w h : Int) (l : List (List (Int × Int))) (l_t : Bool) (p : List (Int × Int)) (p_t : Bool) (LL : List (List Int)) (y : Int) (o : List (List UInt8)) : symF C_pby cuts_pict_r36 Try.f4.results.toList 2 400 (regAt Try.f4 36) (st_pict_r36 cx cy s w h l l_t p p_t LL y o) =
.need (i64ok (y - 1)) (
.ret (.cut (cutAt Try.f4 35) ⟨tmG 106 [(9, .c (.ptr 5 0 0)), (12, .c (.own 6 (List.length o))), (0, .c (.int .i64 (y - 1)))], [.nin 1 (l) none, .inp 1 p, .blk [.int .i64 cx, .int .i64 cy, .int .i64 s, .int .i64 w, .int .i64 h] 25, .own 5 [] 9, .dead, .nown 9 (LL) [] [] 1000041 5, .own 5 o 9]⟩)) := by kernel_rfl


theorem pict_y9 (cx cy s w h : Int) (l : List (List (Int × Int))) (l_t : Bool) (p : List (Int × Int)) (p_t : Bool) (LL : List (List Int)) (y : Int) : symF C_pby cuts_pict_r9 Try.f4.results.toList 2 400 (regAt Try.f4 8).tail (st_pict_r9 cx cy s w h l l_t p p_t LL y) =
.need (i64ok (y + 1)) (
.ret (.cut (cutAt Try.f4 6) ⟨tmG 96 [(1, .c (.slc 0 0 (List.length l) l_t)), (0, .c (.slc 1 0 (List.length p) p_t)), (0, .c (.ptr 2 0 0)), (5, .c (.ptr 5 0 0)), (22, .c (.int .i64 h)), (0, .c (.int .i64 (y + 1)))], [.nin 1 (l) none, .inp 1 p, .blk [.int .i64 cx, .int .i64 cy, .int .i64 s, .int .i64 w, .int .i64 h] 25, .own 5 [] 9, .dead, .nown 9 (LL) [] [] 1000041 5]⟩)) := by kernel_rfl



theorem Q8_at : regAt Try.f4 8 = .code (.region (idI (regAt Try.f4 8)) Q8 false) :: (regAt Try.f4 8).tail := by kernel_rfl
noncomputable def OS8 : Oper := Q8.toList.getD 7 default
theorem OS8_op : OS8.op = .store 40 (.tmp 42) (.tmp 41) := by kernel_rfl
theorem Q8_split : Q8.toList = Q8.toList.take 7 ++ OS8 :: [] := by kernel_rfl
theorem Q8_free : (Q8.toList.all fun o => o.guard.isNone) = true := by kernel_rfl
theorem C40 : Try.prog.cellsOf 40 = 1 := by kernel_rfl
def st_pict_x8 (cx cy s w h : Int) (l : List (List (Int × Int))) (l_t : Bool) (p : List (Int × Int)) (p_t : Bool) (LL : List (List Int)) (y : Int) : St cod := ⟨tmG 87 [(1, .c (.slc 0 0 (List.length l) l_t)), (0, .c (.slc 1 0 (List.length p) p_t)), (0, .c (.ptr 2 0 0)), (5, .c (.ptr 5 0 0)), (0, .c (.int .i64 y)), (21, .c (.int .i64 h)), (0, .c (.int .i64 y)), (2, .c (.int .i64 y)), (0, .c (.slc 6 0 1 true)), (0, .c (.slc 6 0 1 true)), (0, .c (.ptr 2 0 3)), (0, .c (.int .i64 w)), (0, .c (.slc 7 0 (Int.toNat w) true)), (0, .c (.ptr 5 (0 + Int.toNat y) 0))], [.nin 1 l none, .inp 1 p, .blk [.int .i64 cx, .int .i64 cy, .int .i64 s, .int .i64 w, .int .i64 h] 25, .own 5 [] 9, .dead, .nown 9 LL [] [] (1000000 + 41) 5, .inp 9 ([32] : List Int), .own 9 (F.rep [32] w : List Int) 5]⟩
theorem pict_x8' (cx cy s w h : Int) (l : List (List (Int × Int))) (l_t : Bool) (p : List (Int × Int)) (p_t : Bool) (LL : List (List Int)) (y : Int) : lexT C_pby (Q8.toList.take 7) (st_pict_r8 cx cy s w h l l_t p p_t LL y) = .need (((0 = 0 ∧ 1 = 1) ∧ (1 = 1 ∧ ((1 : Int) ≤ w ∧ w ≤ 60)))) (.need (((0 : Int) ≤ y ∧ y < Int.ofNat 60)) (.ret (st_pict_x8 cx cy s w h l l_t p p_t LL y))) := by kernel_rfl
theorem rowOfV_slc {t : Nat} {tyr : TypeId} {H : Heap cod} {r m : Nat} {l : List (cod t).α} {tt : Bool} (ho : Sym.getObj H r = .own t l tyr) (hm : m = l.length) (h0 : 0 < m) : rowOfV t tyr H (.slc r 0 m tt) = some (r, l) := by
  unfold rowOfV
  simp only [ho]
  rw [dif_pos trivial, if_pos ⟨trivial, hm, h0⟩]
theorem closeV_eq {t h j r : Nat} {ty tyr : TypeId} {st : St cod} {LL : List (List (cod t).α)} {js : List Nat} {c : Cell} {cs : List Cell} {l : List (cod t).α} (ho : Sym.getObj st.heap h = .nown t LL (j :: js) (c :: cs) ty tyr) (hr : rowOfV t tyr st.heap c = some (r, l)) : st.closeV h = { st with heap := (st.heap.set h (.nown t (LL.set j l) js cs ty tyr)).set r .dead } := by
  unfold St.closeV
  rw [ho]
  simp only [hr]
theorem set_sameV (L : List (List Int)) (j : Nat) : L.set j (L.getD j []) = L := by
  rw [List.getD_eq_getElem?_getD]
  by_cases h : j < L.length
  · rw [List.getElem?_eq_getElem h]
    exact List.set_getElem_self h
  · rw [List.set_eq_of_length_le (by omega)]
/-- A row set back. -/
theorem put_eq (LL : List (List Int)) (c : Int × Int) (b : Int) : F.put LL c b = LL.set c.2.toNat ((LL.getD c.2.toNat []).set c.1.toNat b) := rfl
theorem pict_l35 (cx cy s w h : Int) (l : List (List (Int × Int))) (l_t : Bool) (p : List (Int × Int)) (p_t : Bool) (b0 : Base) (hb : b0.n = 2) (hw : 1 ≤ w ∧ w ≤ 60) (hh : 1 ≤ h ∧ h ≤ 60) (LL : List (List Int)) (hS : F.Sh w h LL) (RR : SV) (NN : Heap cod)
    (hR : RR = .tup [.c (.own 2 (List.length (F.oG LL h.toNat h.toNat))), .c (.int .i64 0)]) (hN : NN = [.own 5 (F.oG LL h.toNat h.toNat) 9]) :
    ∀ (r n : Nat), n + r = h.toNat → Sym.Runs Try.prog b0 (cutAt Try.f4 35) (st_pict_35 cx cy s w h l l_t p p_t LL (h - 1 - (n : Int)) (F.oG LL h.toNat n)) (Sym.Ends Try.prog Try.f4 2 RR NN) := by
  intro r
  induction r with
  | zero =>
    intro n hn
    have en : n = h.toNat := by omega
    subst en
    refine Runs.go (cfg := C_pby) L_pby_ok mixed cuts_pict 400 hb (pict_t35 cx cy s w h l l_t p p_t LL (h - 1 - (h.toNat : Int)) (F.oG LL h.toNat h.toNat)) ?_
    subst hR
    subst hN
    generalize F.oG LL h.toNat h.toNat = o
    simp only [T.wp, T.wp_cond, Aft, decide_eq_true_eq, and_true]
    exact ite_no (by omega) (by trivial)
  | succ r ih =>
    intro n hn
    have nx := ih (n + 1) (by omega)
    have ey : (h - 1 - (n : Int)).toNat = h.toNat - 1 - n := by omega
    have eo : F.oG LL h.toNat (n + 1) = F.oG LL h.toNat n ++ [F.bts (LL.getD (h.toNat - 1 - n) [])] := rfl
    have hol := F.oG_len LL h.toNat n
    have hrow := hS.2 (h.toNat - 1 - n) (by omega)
    have hL60 := hS.1
    rw [eo, ← ey] at nx
    rw [← ey] at hrow
    have hy0 : 0 ≤ h - 1 - (n : Int) := by omega
    have hy1 : h - 1 - (n : Int) < 60 := by omega
    have en : h - 1 - ((n + 1 : Nat) : Int) = h - 1 - (n : Int) - 1 := by omega
    rw [en] at nx
    clear ih eo ey en
    generalize F.oG LL h.toNat n = o at *
    generalize h - 1 - (n : Int) = y at *
    have hyL : y.toNat < LL.length := by omega
    refine Runs.go (cfg := C_pby) L_pby_ok mixed cuts_pict 400 hb (pict_t35 cx cy s w h l l_t p p_t LL y o) ?_
    simp only [T.wp, T.wp_cond, Aft, decide_eq_true_eq]
    refine ite_yes hy0 ?_
    refine Runs.openV 5 y.toNat (t := 9) (LL := LL) (js := []) (cs := []) (ty := 1000000 + 41) (tyr := 5) rfl hyL List.not_mem_nil (st' := st_pict_r37b cx cy s w h l l_t p p_t LL y o y.toNat (LL.getD y.toNat [])) rfl ?_
    generalize eR : LL.getD y.toNat [] = R at *
    refine Runs.go (cfg := C_pby) L_pby_ok mixed cuts_pict_r37b 400 hb (pict_tr37b cx cy s w h l l_t p p_t LL y o y.toNat R) ?_
    have eT : List.take (List.length R) (List.drop 0 R) = R := by rw [List.drop_zero, List.take_length]
    have henc : ∀ (a : (cod 9).α), ∃ n, (cod 9).enc a = [Cell.int IntKind.u8 n] := fun a => ⟨a, rfl⟩
    refine ⟨⟨by omega, by omega⟩, ⟨by omega, hyL⟩, congrArg List.length eT, henc, rfl, by omega, ?_⟩
    refine Runs.closeV 5 (j := y.toNat) (r := 7) (N := 2) hb (t := 9) (LL := LL) (js := []) (c := .slc 7 0 (List.length R) false) (cs := []) (ty := 1000000 + 41) (tyr := 5) (l := R) rfl hyL List.not_mem_nil (rowOfV_slc rfl rfl (by omega)) (by omega) (by omega) (closeV_eq (t := 9) (LL := LL) (j := y.toNat) (js := []) (c := .slc 7 0 (List.length R) false) (cs := []) (ty := 1000000 + 41) (tyr := 5) (l := R) rfl (rowOfV_slc rfl rfl (by omega))) ?_
    have eS : LL.set y.toNat R = LL := by rw [← eR]; exact set_sameV LL y.toNat
    have elen : (o ++ [F.bts R]).length = o.length + 1 := by simp
    rw [← eS] at nx
    refine Runs.weaken (st' := st_pict_r36 cx cy s w h l l_t p p_t (LL.set y.toNat R) y (o ++ [F.bts R])) (fun a w hR => ?_) ?_
    · unfold st_pict_r36
      rw [elen]
      have hT : (List.map (Sym.byteOf (cod 9)) (List.take (List.length R) (List.drop 0 R))) = F.bts R := congrArg (List.map (Sym.byteOf (cod 9))) eT
      have hR2 := fit_rel [9, 22, 23] 7 (by omega) hR
      rw [← hT]
      exact hR2
    · refine Runs.go (cfg := C_pby) L_pby_ok mixed cuts_pict_r36 400 hb (pict_tr36 cx cy s w h l l_t p p_t (LL.set y.toNat R) y (o ++ [F.bts R])) ?_
      simp only [T.wp, Aft]
      exact ⟨by unfold i64ok; omega, nx⟩
theorem pict_l27 (cx cy s w h : Int) (l : List (List (Int × Int))) (l_t : Bool) (p : List (Int × Int)) (p_t : Bool) (b0 : Base) (hb : b0.n = 2) (hv : F.vok cx cy s w h = true) (hw : 1 ≤ w ∧ w ≤ 60) (hh : 1 ≤ h ∧ h ≤ 60) (h32 : p.length ≤ 32) (hp : F.ptsE p = 0) (LL : List (List Int)) (hS : F.Sh w h LL) (RR : SV) (NN : Heap cod)
    (fin : Sym.Runs Try.prog b0 (cutAt Try.f4 35) (st_pict_35 cx cy s w h l l_t p p_t (F.pG (cx, cy, s, w, h) p LL p.length) (h - 1) []) (Sym.Ends Try.prog Try.f4 2 RR NN)) :
    ∀ (r k : Nat), k + r = p.length → Sym.Runs Try.prog b0 (cutAt Try.f4 27) (st_pict_27 cx cy s w h l l_t p p_t (F.pG (cx, cy, s, w, h) p LL k) (k : Int)) (Sym.Ends Try.prog Try.f4 2 RR NN) := by
  have ed : (cod 1).d = ((0, 0) : Int × Int) := rfl
  have hpt := ptsE_all p hp
  intro r
  induction r with
  | zero =>
    intro k hk
    have ek : k = p.length := by omega
    subst ek
    refine Runs.go (cfg := C_pby) L_pby_ok mixed cuts_pict 400 hb (pict_t27 cx cy s w h l l_t p p_t (F.pG (cx, cy, s, w, h) p LL p.length) (p.length : Int)) ?_
    generalize F.pG (cx, cy, s, w, h) p LL p.length = W at fin ⊢
    simp only [T.wp, T.wp_cond, Aft, Int.ofNat_eq_natCast, decide_eq_true_eq, Nat.zero_add]
    exact ite_no (by omega) ⟨by unfold i64ok; omega, fin⟩
  | succ r ih =>
    intro k hk
    have hkp : k < p.length := by omega
    have nx := ih (k + 1) (by omega)
    have eG : F.pG (cx, cy, s, w, h) p LL (k + 1) = F.stp w h 111 (F.pG (cx, cy, s, w, h) p LL k) (F.scX cx (p.getD k (0, 0)).1 s w, F.scX cy (p.getD k (0, 0)).2 s h) := rfl
    have hSk := F.pG_sh (v := (cx, cy, s, w, h)) (ps := p) hS k
    rw [Int.natCast_succ, eG] at nx
    have p1 := hpt k hkp
    refine Runs.go (cfg := C_pby) L_pby_ok mixed cuts_pict 400 hb (pict_t27 cx cy s w h l l_t p p_t (F.pG (cx, cy, s, w, h) p LL k) (k : Int)) ?_
    generalize F.pG (cx, cy, s, w, h) p LL k = W at *
    simp only [T.wp, T.wp_cond, Aft, Int.ofNat_eq_natCast, decide_eq_true_eq, Nat.zero_add, Int.toNat_natCast, ed]
    generalize p.getD k (0, 0) = a at *
    refine ite_yes (by omega) ⟨⟨by omega, by omega⟩, hkp, ⟨hv, p1⟩, ?_⟩
    unfold F.stp at nx
    have stepR : ∀ W' : List (List Int), Sym.Runs Try.prog b0 (cutAt Try.f4 27) (st_pict_27 cx cy s w h l l_t p p_t W' ((k : Int) + 1)) (Sym.Ends Try.prog Try.f4 2 RR NN) → Sym.Runs Try.prog b0 (regAt Try.f4 32) (st_pict_r32 cx cy s w h l l_t p p_t W' (k : Int)) (Sym.Ends Try.prog Try.f4 2 RR NN) := fun W' hx => by
      refine Runs.go (cfg := C_pby) L_pby_ok mixed cuts_pict_r32 400 hb (pict_tr32 cx cy s w h l l_t p p_t W' (k : Int)) ?_
      simp only [T.wp, Aft, Int.ofNat_eq_natCast]
      exact ⟨by unfold i64ok; omega, hx⟩
    by_cases c : F.vis (F.scX cx a.1 s w) (F.scX cy a.2 s h) w h = true
    · rw [if_pos c, put_eq] at nx
      obtain ⟨v1, v2⟩ := F.vis_bd c
      refine ite_yes c ?_
      generalize F.scX cx a.1 s w = c1 at *
      generalize F.scX cy a.2 s h = c2 at *
      simp only at nx
      have hrow := hSk.2 c2.toNat (by simp only; omega)
      have hL60 := hSk.1
      simp only at hrow
      have hyL : c2.toNat < W.length := by omega
      refine Runs.openV 5 c2.toNat (t := 9) (LL := W) (js := []) (cs := []) (ty := 1000000 + 41) (tyr := 5) rfl hyL List.not_mem_nil (st' := st_pict_r31b cx cy s w h l l_t p p_t W (k : Int) a.1 a.2 c1 c2 c2.toNat (W.getD c2.toNat [])) rfl ?_
      generalize W.getD c2.toNat [] = R at *
      refine Runs.go (cfg := C_pby) L_pby_ok mixed cuts_pict_r31b 400 hb (pict_tr31b cx cy s w h l l_t p p_t W (k : Int) a.1 a.2 c1 c2 c2.toNat R) ?_
      simp only [T.wp, Aft, Int.ofNat_eq_natCast, true_and, Nat.zero_add]
      refine ⟨⟨by omega, by omega⟩, hyL, ⟨by omega, by omega⟩, by omega, ?_⟩
      have hml : List.length R = (R.set c1.toNat (111 : Int)).length := List.length_set.symm
      refine Runs.closeV 5 (j := c2.toNat) (r := 8) (N := 2) hb (t := 9) (LL := W) (js := []) (c := .slc 8 0 (List.length R) false) (cs := []) (ty := 1000000 + 41) (tyr := 5) (l := R.set c1.toNat (111 : Int)) rfl hyL List.not_mem_nil (rowOfV_slc rfl hml (by omega)) (by omega) (by omega) (closeV_eq (t := 9) (LL := W) (j := c2.toNat) (js := []) (c := .slc 8 0 (List.length R) false) (cs := []) (ty := 1000000 + 41) (tyr := 5) (l := R.set c1.toNat (111 : Int)) rfl (rowOfV_slc rfl hml (by omega))) ?_
      exact Runs.weaken (st' := st_pict_r32 cx cy s w h l l_t p p_t (W.set c2.toNat (R.set c1.toNat (111 : Int))) (k : Int)) (fun a w hR => fit_rel [9, 3, 95, 96, 97] 6 (by omega) hR) (stepR _ nx)
    · rw [if_neg c] at nx
      refine ite_no c ?_
      exact Runs.weaken (st' := st_pict_r32 cx cy s w h l l_t p p_t W (k : Int)) (fun a w hR => fit_rel [9, 3, 95, 96, 97] 6 (by omega) hR) (stepR _ nx)
theorem pict_l19 (cx cy s w h : Int) (l : List (List (Int × Int))) (l_t : Bool) (p : List (Int × Int)) (p_t : Bool) (b0 : Base) (hb : b0.n = 2) (hw : 1 ≤ w ∧ w ≤ 60) (hh : 1 ≤ h ∧ h ≤ 60) (LL : List (List Int)) (hS : F.Sh w h LL) (RR : SV) (NN : Heap cod) (i : Int) (j : Nat) (q : List (Int × Int)) (k : Int) (hk : 0 ≤ k ∧ k ≤ 100) (a1 a2 : Int) (L : List (Int × Int)) (hLl : L.length ≤ 100000)
    (fin : Sym.Runs Try.prog b0 (cutAt Try.f4 14) (st_pict_14 cx cy s w h l l_t p p_t (F.dG w h 46 L LL L.length) i j q (k + 1)) (Sym.Ends Try.prog Try.f4 2 RR NN)) :
    ∀ (r m : Nat), m + r = L.length → Sym.Runs Try.prog b0 (cutAt Try.f4 19) (st_pict_19 cx cy s w h l l_t p p_t (F.dG w h 46 L LL m) i j q k a1 a2 L (m : Int)) (Sym.Ends Try.prog Try.f4 2 RR NN) := by
  have ed : (cod 1).d = ((0, 0) : Int × Int) := rfl
  intro r
  induction r with
  | zero =>
    intro m hm
    have ek : m = L.length := by omega
    subst ek
    refine Runs.go (cfg := C_pby) L_pby_ok mixed cuts_pict 400 hb (pict_t19 cx cy s w h l l_t p p_t (F.dG w h 46 L LL L.length) i j q k a1 a2 L (L.length : Int)) ?_
    generalize F.dG w h 46 L LL L.length = W at fin ⊢
    simp only [T.wp, T.wp_cond, Aft, Int.ofNat_eq_natCast, decide_eq_true_eq, Nat.zero_add]
    exact ite_no (by omega) ⟨by unfold i64ok; omega, fin⟩
  | succ r ih =>
    intro m hm
    have hmL : m < L.length := by omega
    have nx := ih (m + 1) (by omega)
    have eG : F.dG w h 46 L LL (m + 1) = F.stp w h 46 (F.dG w h 46 L LL m) (L.getD m (0, 0)) := rfl
    have hSk := F.dG_sh (w := w) (h := h) 46 L hS m
    rw [Int.natCast_succ, eG] at nx
    refine Runs.go (cfg := C_pby) L_pby_ok mixed cuts_pict 400 hb (pict_t19 cx cy s w h l l_t p p_t (F.dG w h 46 L LL m) i j q k a1 a2 L (m : Int)) ?_
    generalize F.dG w h 46 L LL m = W at *
    simp only [T.wp, T.wp_cond, Aft, Int.ofNat_eq_natCast, decide_eq_true_eq, Nat.zero_add, Int.toNat_natCast, ed]
    generalize L.getD m (0, 0) = a at *
    refine ite_yes (by omega) ⟨⟨by omega, by omega⟩, hmL, ?_⟩
    unfold F.stp at nx
    have stepR : ∀ W' : List (List Int), Sym.Runs Try.prog b0 (cutAt Try.f4 19) (st_pict_19 cx cy s w h l l_t p p_t W' i j q k a1 a2 L ((m : Int) + 1)) (Sym.Ends Try.prog Try.f4 2 RR NN) → Sym.Runs Try.prog b0 (regAt Try.f4 23) (st_pict_r23 cx cy s w h l l_t p p_t W' i j q k a1 a2 L (m : Int)) (Sym.Ends Try.prog Try.f4 2 RR NN) := fun W' hx => by
      refine Runs.go (cfg := C_pby) L_pby_ok mixed cuts_pict_r23 400 hb (pict_tr23 cx cy s w h l l_t p p_t W' i j q k a1 a2 L (m : Int)) ?_
      simp only [T.wp, Aft, Int.ofNat_eq_natCast]
      exact ⟨by unfold i64ok; omega, hx⟩
    by_cases c : F.vis a.1 a.2 w h = true
    · rw [if_pos c, put_eq] at nx
      obtain ⟨v1, v2⟩ := F.vis_bd c
      refine ite_yes c ?_
      have hrow := hSk.2 a.2.toNat (by omega)
      have hL60 := hSk.1
      have hyL : a.2.toNat < W.length := by omega
      refine Runs.openV 5 a.2.toNat (t := 9) (LL := W) (js := []) (cs := []) (ty := 1000000 + 41) (tyr := 5) rfl hyL List.not_mem_nil (st' := st_pict_r22b cx cy s w h l l_t p p_t W i j q k a1 a2 L (m : Int) a.1 a.2 a.2.toNat (W.getD a.2.toNat [])) rfl ?_
      generalize W.getD a.2.toNat [] = R at *
      refine Runs.go (cfg := C_pby) L_pby_ok mixed cuts_pict_r22b 400 hb (pict_tr22b cx cy s w h l l_t p p_t W i j q k a1 a2 L (m : Int) a.1 a.2 a.2.toNat R) ?_
      simp only [T.wp, Aft, Int.ofNat_eq_natCast, true_and, Nat.zero_add]
      refine ⟨⟨by omega, by omega⟩, hyL, ⟨by omega, by omega⟩, by omega, ?_⟩
      have hml : List.length R = (R.set a.1.toNat (46 : Int)).length := List.length_set.symm
      refine Runs.closeV 5 (j := a.2.toNat) (r := 10) (N := 2) hb (t := 9) (LL := W) (js := []) (c := .slc 10 0 (List.length R) false) (cs := []) (ty := 1000000 + 41) (tyr := 5) (l := R.set a.1.toNat (46 : Int)) rfl hyL List.not_mem_nil (rowOfV_slc rfl hml (by omega)) (by omega) (by omega) (closeV_eq (t := 9) (LL := W) (j := a.2.toNat) (js := []) (c := .slc 10 0 (List.length R) false) (cs := []) (ty := 1000000 + 41) (tyr := 5) (l := R.set a.1.toNat (46 : Int)) rfl (rowOfV_slc rfl hml (by omega))) ?_
      exact Runs.weaken (st' := st_pict_r23 cx cy s w h l l_t p p_t (W.set a.2.toNat (R.set a.1.toNat (46 : Int))) i j q k a1 a2 L (m : Int)) (fun a w hR => fit_rel [9, 3, 76, 12, 50, 44, 2, 45, 46, 51, 52, 77, 78] 9 (by omega) hR) (stepR _ nx)
    · rw [if_neg c] at nx
      refine ite_no c ?_
      exact Runs.weaken (st' := st_pict_r23 cx cy s w h l l_t p p_t W i j q k a1 a2 L (m : Int)) (fun a w hR => fit_rel [9, 3, 76, 12, 50, 44, 2, 45, 46, 51, 52, 77, 78] 9 (by omega) hR) (stepR _ nx)
theorem line_len (ax ay bx by_ : Int) : (F.line ax ay bx by_).length ≤ 100000 := by
  unfold F.line
  split
  · simp
  · rename_i hf
    rw [Bool.or_eq_true, not_or] at hf
    obtain ⟨r1, r2⟩ := far_false hf.1
    obtain ⟨r3, r4⟩ := far_false hf.2
    have := ln_le r1 r2 r3 r4
    have m1 := ln_bd ax ay bx by_
    rw [lps_len]
    omega
theorem line_bad {ax ay bx by_ : Int} (h : ¬ F.lineE ax ay bx by_ = 0) : F.line ax ay bx by_ = [] := by
  unfold F.lineE at h
  unfold F.line
  split at h
  · rename_i c
    rw [if_pos c]
  · exact absurd rfl h
theorem pict_l14 (cx cy s w h : Int) (l : List (List (Int × Int))) (l_t : Bool) (p : List (Int × Int)) (p_t : Bool) (b0 : Base) (hb : b0.n = 2) (hv : F.vok cx cy s w h = true) (hw : 1 ≤ w ∧ w ≤ 60) (hh : 1 ≤ h ∧ h ≤ 60) (LL : List (List Int)) (hS : F.Sh w h LL) (RR : SV) (NN : Heap cod) (i : Nat) (hi : i ≤ 12) (q : List (Int × Int)) (h16 : q.length ≤ 16) (hq : F.ptsE q = 0)
    (fin : Sym.Runs Try.prog b0 (cutAt Try.f4 11) (st_pict_11 cx cy s w h l l_t p p_t (F.eG (cx, cy, s, w, h) q LL q.length) ((i : Int) + 1)) (Sym.Ends Try.prog Try.f4 2 RR NN)) :
    ∀ (r k : Nat), k + r = q.length → Sym.Runs Try.prog b0 (cutAt Try.f4 14) (st_pict_14 cx cy s w h l l_t p p_t (F.eG (cx, cy, s, w, h) q LL k) (i : Int) i q (k : Int)) (Sym.Ends Try.prog Try.f4 2 RR NN) := by
  have ed : (cod 1).d = ((0, 0) : Int × Int) := rfl
  have hpt := ptsE_all q hq
  intro r
  induction r with
  | zero =>
    intro k hk
    have ek : k = q.length := by omega
    subst ek
    refine Runs.go (cfg := C_pby) L_pby_ok mixed cuts_pict 400 hb (pict_t14 cx cy s w h l l_t p p_t (F.eG (cx, cy, s, w, h) q LL q.length) (i : Int) i q (q.length : Int)) ?_
    generalize F.eG (cx, cy, s, w, h) q LL q.length = W at fin ⊢
    simp only [T.wp, T.wp_cond, Aft, Int.ofNat_eq_natCast, decide_eq_true_eq, Nat.zero_add, Bool.not_eq_true', decide_eq_false_iff_not]
    refine ite_no (by omega) (Runs.close 0 rfl ?_)
    refine Runs.weaken (st' := st_pict_r25 cx cy s w h l l_t p p_t W (i : Int)) (fun a w hR => fit_rel [9, 3, 44, 2, 45, 46] 6 (by omega) hR) ?_
    refine Runs.go (cfg := C_pby) L_pby_ok mixed cuts_pict_r25 400 hb (pict_tr25 cx cy s w h l l_t p p_t W (i : Int)) ?_
    simp only [T.wp, Aft, Int.ofNat_eq_natCast]
    exact ⟨by unfold i64ok; omega, fin⟩
  | succ r ih =>
    intro k hk
    have hkq : k < q.length := by omega
    have hnq : (k + 1) % q.length < q.length := Nat.mod_lt _ (by omega)
    have p1 := hpt k hkq
    have p2 := hpt _ hnq
    have nx := ih (k + 1) (by omega)
    have eL : F.edgeL (cx, cy, s, w, h) q k = F.line (F.scX cx (q.getD k (0, 0)).1 s w) (F.scX cy (q.getD k (0, 0)).2 s h) (F.scX cx (q.getD ((k + 1) % q.length) (0, 0)).1 s w) (F.scX cy (q.getD ((k + 1) % q.length) (0, 0)).2 s h) := rfl
    have eG : F.eG (cx, cy, s, w, h) q LL (k + 1) = F.dG w h 46 (F.edgeL (cx, cy, s, w, h) q k) (F.eG (cx, cy, s, w, h) q LL k) (F.edgeL (cx, cy, s, w, h) q k).length := rfl
    have hSk : F.Sh w h (F.eG (cx, cy, s, w, h) q LL k) := F.eG_sh (v := (cx, cy, s, w, h)) (p := q) hS k
    rw [Int.natCast_succ, eG, eL] at nx
    refine Runs.go (cfg := C_pby) L_pby_ok mixed cuts_pict 400 hb (pict_t14 cx cy s w h l l_t p p_t (F.eG (cx, cy, s, w, h) q LL k) (i : Int) i q (k : Int)) ?_
    generalize F.eG (cx, cy, s, w, h) q LL k = W at *
    simp only [T.wp, T.wp_cond, Aft, Int.ofNat_eq_natCast, decide_eq_true_eq, Nat.zero_add, Bool.not_eq_true', decide_eq_false_iff_not, Int.toNat_natCast, ed, tmod_next k q.length hkq]
    generalize q.getD k (0, 0) = a at *
    generalize q.getD ((k + 1) % q.length) (0, 0) = b at *
    have hll := line_len (F.scX cx a.1 s w) (F.scX cy a.2 s h) (F.scX cx b.1 s w) (F.scX cy b.2 s h)
    refine ite_yes (by omega) ⟨⟨by omega, by omega⟩, hkq, ⟨hv, p1⟩, by unfold i64ok; omega, by omega, ⟨by omega, by omega⟩, hnq, ⟨hv, p2⟩, ?_⟩
    by_cases c : F.lineE (F.scX cx a.1 s w) (F.scX cy a.2 s h) (F.scX cx b.1 s w) (F.scX cy b.2 s h) = 0
    · refine ite_no (fun g => g c) ?_
      exact pict_l19 cx cy s w h l l_t p p_t b0 hb hw hh W hSk RR NN (i : Int) i q (k : Int) ⟨by omega, by omega⟩ a.1 a.2 _ hll nx _ 0 (Nat.zero_add _)
    · refine ite_yes c ⟨by unfold i64ok; omega, ?_⟩
      rw [line_bad c] at nx
      exact nx
theorem pict_l11 (cx cy s w h : Int) (l : List (List (Int × Int))) (l_t : Bool) (p : List (Int × Int)) (p_t : Bool) (b0 : Base) (hb : b0.n = 2) (hv : F.vok cx cy s w h = true) (hw : 1 ≤ w ∧ w ≤ 60) (hh : 1 ≤ h ∧ h ≤ 60) (h12 : l.length ≤ 12) (hl : F.polsE l = 0) (LL : List (List Int)) (hS : F.Sh w h LL) (RR : SV) (NN : Heap cod)
    (fin : Sym.Runs Try.prog b0 (cutAt Try.f4 27) (st_pict_27 cx cy s w h l l_t p p_t (F.lG (cx, cy, s, w, h) l LL l.length) 0) (Sym.Ends Try.prog Try.f4 2 RR NN)) :
    ∀ (r i : Nat), i + r = l.length → Sym.Runs Try.prog b0 (cutAt Try.f4 11) (st_pict_11 cx cy s w h l l_t p p_t (F.lG (cx, cy, s, w, h) l LL i) (i : Int)) (Sym.Ends Try.prog Try.f4 2 RR NN) := by
  have hL := polsE_all l hl
  intro r
  induction r with
  | zero =>
    intro i hi
    have ek : i = l.length := by omega
    subst ek
    refine Runs.go (cfg := C_pby) L_pby_ok mixed cuts_pict 400 hb (pict_t11 cx cy s w h l l_t p p_t (F.lG (cx, cy, s, w, h) l LL l.length) (l.length : Int)) ?_
    generalize F.lG (cx, cy, s, w, h) l LL l.length = W at fin ⊢
    simp only [T.wp, T.wp_cond, Aft, Int.ofNat_eq_natCast, decide_eq_true_eq]
    exact ite_no (by omega) fin
  | succ r ih =>
    intro i hi
    have hil : i < l.length := by omega
    obtain ⟨q1, q2⟩ := hL i hil
    have nx := ih (i + 1) (by omega)
    have eG : F.lG (cx, cy, s, w, h) l LL (i + 1) = F.eG (cx, cy, s, w, h) (l.getD i []) (F.lG (cx, cy, s, w, h) l LL i) (l.getD i []).length := rfl
    have hSk : F.Sh w h (F.lG (cx, cy, s, w, h) l LL i) := F.lG_sh (v := (cx, cy, s, w, h)) (l := l) hS i
    rw [Int.natCast_succ, eG] at nx
    refine Runs.go (cfg := C_pby) L_pby_ok mixed cuts_pict 400 hb (pict_t11 cx cy s w h l l_t p p_t (F.lG (cx, cy, s, w, h) l LL i) (i : Int)) ?_
    generalize F.lG (cx, cy, s, w, h) l LL i = W at *
    simp only [T.wp, T.wp_cond, Aft, Int.ofNat_eq_natCast, decide_eq_true_eq]
    refine ite_yes (by omega) ?_
    refine Runs.open 0 i rfl hil rfl ?_
    refine Runs.weaken (st' := st_pict_r12b cx cy s w h l l_t p p_t W (i : Int) i (l.getD i [])) (fun a w hR => hR) ?_
    generalize l.getD i [] = q at *
    refine Runs.go (cfg := C_pby) L_pby_ok mixed cuts_pict_r12b 400 hb (pict_tr12b cx cy s w h l l_t p p_t W (i : Int) i q) ?_
    have h14 := pict_l14 cx cy s w h l l_t p p_t b0 hb hv hw hh W hSk RR NN i (by omega) q q1 q2 nx q.length 0 (Nat.zero_add _)
    simp only [T.wp, Aft, Int.ofNat_eq_natCast, true_and, Nat.zero_add, Int.toNat_natCast]
    exact ⟨⟨by omega, by omega⟩, hil, h14⟩
theorem pict_l6 (cx cy s w h : Int) (l : List (List (Int × Int))) (l_t : Bool) (p : List (Int × Int)) (p_t : Bool) (b0 : Base) (hb : b0.n = 2) (hw : 1 ≤ w ∧ w ≤ 60) (hh : 1 ≤ h ∧ h ≤ 60) (RR : SV) (NN : Heap cod)
    (fin : Sym.Runs Try.prog b0 (cutAt Try.f4 11) (st_pict_11 cx cy s w h l l_t p p_t (F.bG w.toNat h.toNat) 0) (Sym.Ends Try.prog Try.f4 2 RR NN)) :
    ∀ (r y : Nat), y + r = h.toNat → Sym.Runs Try.prog b0 (cutAt Try.f4 6) (st_pict_6 cx cy s w h l l_t p p_t (F.bG w.toNat y) (y : Int)) (Sym.Ends Try.prog Try.f4 2 RR NN) := by
  intro r
  induction r with
  | zero =>
    intro y hy
    have ek : y = h.toNat := by omega
    subst ek
    refine Runs.go (cfg := C_pby) L_pby_ok mixed cuts_pict 400 hb (pict_t6 cx cy s w h l l_t p p_t (F.bG w.toNat h.toNat) (h.toNat : Int)) ?_
    generalize F.bG w.toNat h.toNat = W at fin ⊢
    simp only [T.wp, T.wp_cond, Aft, Int.ofNat_eq_natCast, decide_eq_true_eq]
    exact ite_no (by omega) fin
  | succ r ih =>
    intro y hy
    have nx := ih (y + 1) (by omega)
    have eG : F.bG w.toNat (y + 1) = (F.bG w.toNat y).set y (List.replicate w.toNat 32) := rfl
    have hbl := F.bG_len w.toNat y
    rw [Int.natCast_succ, eG] at nx
    refine Runs.go (cfg := C_pby) L_pby_ok mixed cuts_pict 400 hb (pict_t6 cx cy s w h l l_t p p_t (F.bG w.toNat y) (y : Int)) ?_
    generalize F.bG w.toNat y = W at *
    simp only [T.wp, T.wp_cond, Aft, Int.ofNat_eq_natCast, decide_eq_true_eq]
    refine ite_yes (by omega) ?_
    have hyW : y < W.length := by omega
    have hrl : Int.toNat w = (F.rep [32] w).length := by unfold F.rep; rw [List.length_replicate]
    have hre : F.rep [32] w = List.replicate w.toNat 32 := rfl
    refine Runs.mid (cfg := C_pby) L_pby_ok Q8_at Q8_split Q8_free (pict_x8' cx cy s w h l l_t p p_t W (y : Int)) ?_
    refine ⟨⟨⟨rfl, rfl⟩, rfl, hw⟩, ⟨by omega, by rw [Int.ofNat_eq_natCast]; omega⟩, _, StepW.row (T := 40) (ty := 1000000 + 41) (tyr := 5) (t := 9) (h := 5) (i := y) (LL := W) (c := .slc 7 0 (Int.toNat w) true) OS8_op C40 (by show Sym.SV.c (.ptr 5 (0 + Int.toNat (y : Int)) 0) = _; rw [Int.toNat_natCast, Nat.zero_add]) rfl rfl rfl hyW rfl, ?_⟩
    refine Runs.closeV 5 (j := y) (r := 7) (N := 2) hb (t := 9) (LL := W) (js := []) (c := .slc 7 0 (Int.toNat w) true) (cs := []) (ty := 1000000 + 41) (tyr := 5) (l := F.rep [32] w) rfl hyW List.not_mem_nil (rowOfV_slc rfl hrl (by omega)) (by omega) (by omega) (closeV_eq (t := 9) (LL := W) (j := y) (js := []) (c := .slc 7 0 (Int.toNat w) true) (cs := []) (ty := 1000000 + 41) (tyr := 5) (l := F.rep [32] w) rfl (rowOfV_slc rfl hrl (by omega))) ?_
    refine Runs.weaken (st' := st_pict_r9 cx cy s w h l l_t p p_t (W.set y (F.rep [32] w)) (y : Int)) (fun a w hR => fit_rel [9, 3, 2, 1, 32, 33] 6 (by omega) hR) ?_
    refine Runs.go (cfg := C_pby) L_pby_ok mixed cuts_pict_r9 400 hb (pict_y9 cx cy s w h l l_t p p_t (W.set y (F.rep [32] w)) (y : Int)) ?_
    rw [hre]
    simp only [T.wp, Aft]
    exact ⟨by unfold i64ok; omega, nx⟩
theorem pict_run (cx cy s w h : Int) (l : List (List (Int × Int))) (l_t : Bool) (p : List (Int × Int)) (p_t : Bool) (b0 : Base) (hb : b0.n = 2) (h0 : l.length ≤ 12) (h1 : p.length ≤ 32) : Sym.Runs Try.prog b0 [.code (codeOf Try.f4)] ⟨argsS Try.f4 [.agg [.int .i64 cx, .int .i64 cy, .int .i64 s, .int .i64 w, .int .i64 h], .c (.slc 0 0 (List.length l) l_t), .c (.slc 1 0 (List.length p) p_t)], ([.nin 1 l none, .inp 1 p] : Heap cod)⟩ (Sym.Ends Try.prog Try.f4 2 (.tup [.c (.own 2 (List.length (F.out cx cy s w h l p))), .c (.int .i64 (F.picE cx cy s w h l p))]) [.own 5 (F.out cx cy s w h l p) 9]) := by
  refine Runs.go (cfg := C_pby) L_pby_ok mixed cuts_pict 400 hb (pict_t0 cx cy s w h l l_t p p_t) ?_
  by_cases hE : F.picE cx cy s w h l p = 0
  · have hO : F.out cx cy s w h l p = F.oG (F.pic (cx, cy, s, w, h) l p) h.toNat h.toNat := by unfold F.out; rw [if_pos hE]
    have hv : F.vok cx cy s w h = true := by
      unfold F.picE F.vE at hE
      cases c : F.vok cx cy s w h with
      | true => rfl
      | false => rw [c] at hE; simp at hE
    have hv0 : F.vE cx cy s w h = 0 := by unfold F.vE; rw [if_pos hv]
    have hl : F.polsE l = 0 := by
      unfold F.picE at hE
      rw [if_pos hv0] at hE
      by_cases c : F.polsE l = 0
      · exact c
      · rw [if_neg c] at hE
        exact hE
    have hp : F.ptsE p = 0 := by
      unfold F.picE at hE
      rw [if_pos hv0, if_pos hl] at hE
      exact hE
    have hv2 := hv
    unfold F.vok F.inb at hv2
    simp only [Bool.and_eq_true, decide_eq_true_eq] at hv2
    obtain ⟨_, ⟨_, _⟩, ⟨w1, w2⟩, d1, d2⟩ := hv2
    have hb6 : F.Sh w h (F.bG w.toNat h.toNat) := F.bG_sh (by omega) ⟨by omega, d2⟩
    have hb11 : F.Sh w h (F.lG (cx, cy, s, w, h) l (F.bG w.toNat h.toNat) l.length) := F.lG_sh (v := (cx, cy, s, w, h)) (l := l) hb6 _
    have hpic : F.pic (cx, cy, s, w, h) l p = F.pG (cx, cy, s, w, h) p (F.lG (cx, cy, s, w, h) l (F.bG w.toNat h.toNat) l.length) p.length := rfl
    have hb35 : F.Sh w h (F.pG (cx, cy, s, w, h) p (F.lG (cx, cy, s, w, h) l (F.bG w.toNat h.toNat) l.length) p.length) := F.pG_sh (v := (cx, cy, s, w, h)) (ps := p) hb11 _
    rw [hO, hE, hpic]
    have l35 := pict_l35 cx cy s w h l l_t p p_t b0 hb ⟨w1, w2⟩ ⟨d1, d2⟩ _ hb35 _ _ rfl rfl h.toNat 0 (Nat.zero_add _)
    rw [show h - 1 - ((0 : Nat) : Int) = h - 1 by omega] at l35
    have l27 := pict_l27 cx cy s w h l l_t p p_t b0 hb hv ⟨w1, w2⟩ ⟨d1, d2⟩ h1 hp _ hb11 _ _ l35 p.length 0 (Nat.zero_add _)
    have l11 := pict_l11 cx cy s w h l l_t p p_t b0 hb hv ⟨w1, w2⟩ ⟨d1, d2⟩ h0 hl _ hb6 _ _ l27 l.length 0 (Nat.zero_add _)
    have l6 := pict_l6 cx cy s w h l l_t p p_t b0 hb ⟨w1, w2⟩ ⟨d1, d2⟩ _ _ l11 h.toNat 0 (Nat.zero_add _)
    generalize F.pG (cx, cy, s, w, h) p (F.lG (cx, cy, s, w, h) l (F.bG w.toNat h.toNat) l.length) p.length = P at *
    simp only [T.wp, T.wp_cond, Aft, and_true, true_and, Bool.not_eq_true', decide_eq_false_iff_not]
    refine ⟨⟨h0, h1⟩, ite_no (fun g => g trivial) ?_⟩
    refine Runs.madeV 9 4 60 9 41 5 rfl rfl (by omega) (st' := st_pict_r5b cx cy s w h l l_t p p_t (List.replicate 60 [])) rfl ?_
    refine Runs.go (cfg := C_pby) L_pby_ok mixed cuts_pict_r5b 400 hb (pict_tr5b cx cy s w h l l_t p p_t (List.replicate 60 [])) ?_
    exact l6
  · have hO : F.out cx cy s w h l p = [] := by unfold F.out; rw [if_neg hE]
    rw [hO]
    simp only [T.wp, T.wp_cond, Aft, and_true, true_and, Bool.not_eq_true', decide_eq_false_iff_not]
    exact ⟨⟨h0, h1⟩, ite_yes hE ⟨rfl, rfl⟩⟩



noncomputable def s_pict : Summ cod := fun args H => match args, H with
  | [.agg [.int .i64 cx, .int .i64 cy, .int .i64 s, .int .i64 w, .int .i64 h], .c (.slc 0 l_i l_n l_t), .c (.slc 1 p_i p_n p_t)], [o0, o1] => (match o0.asNin 1 with | some l => (match o1.asInp 1 with | some p => .need ((l_i = 0 ∧ l_n = List.length l) ∧ (p_i = 0 ∧ p_n = List.length p) ∧ (l.length ≤ 12) ∧ (p.length ≤ 32)) (.ret (.tup [.c (.own 2 (List.length (F.out cx cy s w h l p))), .c (.int .i64 (F.picE cx cy s w h l p))], [.own 5 (F.out cx cy s w h l p) 9])) | none => .fail) | none => .fail)
  | _, _ => .fail


theorem pict_sound : Sound Try.prog cod 4 s_pict := sound_runs (cfg := C_pby) L_pby_ok mixed Try.func4 rfl rfl _ fun args H r news hg b0 hb => by
  unfold s_pict at hg
  split at hg
  · skip
    split at hg
    · rename_i l hx0
      cases asNin_spec hx0
      split at hg
      · rename_i p hx1
        cases asInp_spec hx1
        simp only [T.gives, T.wp, Prod.mk.injEq] at hg
        obtain ⟨⟨⟨rfl, rfl⟩, ⟨rfl, rfl⟩, q2, q3⟩, rfl, rfl⟩ := hg
        exact pict_run _ _ _ _ _ _ _ _ _ b0 hb (by assumption) (by assumption)
      · exact hg.elim
    · exact hg.elim
  · exact hg.elim

noncomputable def L_pict : Sums cod := (4, .p s_pict) :: L_pby
noncomputable def C_pict : Cfg cod := mkC L_pict

theorem L_pict_ok : Snd Try.prog cod L_pict := .cons pict_sound L_pby_ok


end
end Go.Proofs.Ytbdhppceihcbnaa
