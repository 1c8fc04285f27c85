/- Part of a claim: lemmas on the way to its theorem; each states its own conditions. -/
import Derived.Test.YtiolfkmkbccndaaGreatDoorYg
import Derived.Test.YtiolfkmkbccndaaGreatDoorBd39
namespace Go.Proofs.YtiolfkmkbccndaaGreatDoor
open Sym Go.RowKit
noncomputable section
set_option maxRecDepth 100000
set_option maxHeartbeats 4000000



noncomputable def s_hsub : Summ cod := s_subm


theorem hsub_sound : SoundI Tryz.prog cod 11 s_hsub := subm_sound

noncomputable def L_hsub : Sums cod := (11, .i s_hsub) :: L_stat
noncomputable def C_hsub : Cfg cod := mkC L_hsub

theorem L_hsub_ok : Snd Tryz.prog cod L_hsub := .consI hsub_sound L_stat_ok



noncomputable def s_hdrp : Summ cod := s_drop


theorem hdrp_sound : SoundI Tryz.prog cod 13 s_hdrp := drop_sound

noncomputable def L_hdrp : Sums cod := (13, .i s_hdrp) :: L_hsub
noncomputable def C_hdrp : Cfg cod := mkC L_hdrp

theorem L_hdrp_ok : Snd Tryz.prog cod L_hdrp := .consI hdrp_sound L_hsub_ok



noncomputable def s_hres : Summ cod := s_resd


theorem hres_sound : SoundI Tryz.prog cod 14 s_hres := resd_sound

noncomputable def L_hres : Sums cod := (14, .i s_hres) :: L_hdrp
noncomputable def C_hres : Cfg cod := mkC L_hres

theorem L_hres_ok : Snd Tryz.prog cod L_hres := .consI hres_sound L_hdrp_ok



noncomputable def s_htko : Summ cod := s_tko


theorem htko_sound : SoundI Tryz.prog cod 15 s_htko := tko_sound

noncomputable def L_htko : Sums cod := (15, .i s_htko) :: L_hres
noncomputable def C_htko : Cfg cod := mkC L_htko

theorem L_htko_ok : Snd Tryz.prog cod L_htko := .consI htko_sound L_hres_ok



noncomputable def s_hdlv : Summ cod := s_dlv


theorem hdlv_sound : SoundI Tryz.prog cod 16 s_hdlv := dlv_sound

noncomputable def L_hdlv : Sums cod := (16, .i s_hdlv) :: L_htko
noncomputable def C_hdlv : Cfg cod := mkC L_hdlv

theorem L_hdlv_ok : Snd Tryz.prog cod L_hdlv := .consI hdlv_sound L_htko_ok



noncomputable def s_hans : Summ cod := s_answ


theorem hans_sound : SoundI Tryz.prog cod 17 s_hans := answ_sound

noncomputable def L_hans : Sums cod := (17, .i s_hans) :: L_hdlv
noncomputable def C_hans : Cfg cod := mkC L_hans

theorem L_hans_ok : Snd Tryz.prog cod L_hans := .consI hans_sound L_hdlv_ok



noncomputable def s_hwir : Summ cod := s_wir


theorem hwir_sound : SoundI Tryz.prog cod 10 s_hwir := wir_sound

noncomputable def L_hwir : Sums cod := (10, .i s_hwir) :: L_hans
noncomputable def C_hwir : Cfg cod := mkC L_hwir

theorem L_hwir_ok : Snd Tryz.prog cod L_hwir := .consI hwir_sound L_hans_ok



noncomputable def s_hcut : Summ cod := s_rcut


theorem hcut_sound : Sound Tryz.prog cod 9 s_hcut := rcut_sound

noncomputable def L_hcut : Sums cod := (9, .p s_hcut) :: L_hwir
noncomputable def C_hcut : Cfg cod := mkC L_hcut

theorem L_hcut_ok : Snd Tryz.prog cod L_hcut := .cons hcut_sound L_hwir_ok



noncomputable def s_hnew : Summ cod := s_newp


theorem hnew_sound : Sound Tryz.prog cod 4 s_hnew := newp_sound

noncomputable def L_hnew : Sums cod := (4, .p s_hnew) :: L_hcut
noncomputable def C_hnew : Cfg cod := mkC L_hnew

theorem L_hnew_ok : Snd Tryz.prog cod L_hnew := .cons hnew_sound L_hcut_ok



noncomputable def s_hsam : Summ cod := s_same


theorem hsam_sound : Sound Tryz.prog cod 18 s_hsam := same_sound

noncomputable def L_hsam : Sums cod := (18, .p s_hsam) :: L_hnew
noncomputable def C_hsam : Cfg cod := mkC L_hsam

theorem L_hsam_ok : Snd Tryz.prog cod L_hsam := .cons hsam_sound L_hnew_ok



noncomputable def QT19 : Array Oper := opsJ (regAt Tryz.f3 19)
noncomputable def QT30 : Array Oper := opsJ (regAt Tryz.f3 30)


def cuts_law : Cuts := [(100006, [4, 3, 5, 0], 30), (7, [4, 3, 28, 29, 30, 5], 7), (100012, [4, 3, 28, 29, 30, 5, 6, 7, 9, 8], 7), (100014, [4, 3, 28, 29, 30, 5, 6, 7, 8], 7), (100019, [4, 3, 28, 29, 30, 5, 6, 7], 7), (26, [4, 3, 28, 29, 30, 5], 7), (100030, [4, 3, 28, 29, 30, 10, 5], 8), (100031, [4, 3, 28, 29, 5, 30], 7), (32, [4, 97, 3, 28, 29, 5, 30, 98, 99], 30), (100033, [4, 97, 3, 28, 29, 5, 30, 98, 99], 8)]
def cuts_law_r6 : Cuts := [(7, [4, 3, 28, 29, 30, 5], 7), (100012, [4, 3, 28, 29, 30, 5, 6, 7, 9, 8], 7), (100014, [4, 3, 28, 29, 30, 5, 6, 7, 8], 7), (100019, [4, 3, 28, 29, 30, 5, 6, 7], 7), (26, [4, 3, 28, 29, 30, 5], 7), (100030, [4, 3, 28, 29, 30, 10, 5], 8), (100031, [4, 3, 28, 29, 5, 30], 7), (32, [4, 97, 3, 28, 29, 5, 30, 98, 99], 30), (100033, [4, 97, 3, 28, 29, 5, 30, 98, 99], 8)]
def cuts_law_r6b : Cuts := [(7, [4, 3, 28, 29, 30, 5], 7), (100012, [4, 3, 28, 29, 30, 5, 6, 7, 9, 8], 7), (100014, [4, 3, 28, 29, 30, 5, 6, 7, 8], 7), (100019, [4, 3, 28, 29, 30, 5, 6, 7], 7), (26, [4, 3, 28, 29, 30, 5], 7), (100030, [4, 3, 28, 29, 30, 10, 5], 8), (100031, [4, 3, 28, 29, 5, 30], 7), (32, [4, 97, 3, 28, 29, 5, 30, 98, 99], 30), (100033, [4, 97, 3, 28, 29, 5, 30, 98, 99], 8)]
def cuts_law_r12 : Cuts := [(100006, [4, 3, 5, 0], 30), (7, [4, 3, 28, 29, 30, 5], 7), (100014, [4, 3, 28, 29, 30, 5, 6, 7, 8], 7), (100019, [4, 3, 28, 29, 30, 5, 6, 7], 7), (26, [4, 3, 28, 29, 30, 5], 7), (100030, [4, 3, 28, 29, 30, 10, 5], 8), (100031, [4, 3, 28, 29, 5, 30], 7), (32, [4, 97, 3, 28, 29, 5, 30, 98, 99], 30), (100033, [4, 97, 3, 28, 29, 5, 30, 98, 99], 8)]
def cuts_law_r14 : Cuts := [(100006, [4, 3, 5, 0], 30), (7, [4, 3, 28, 29, 30, 5], 7), (100012, [4, 3, 28, 29, 30, 5, 6, 7, 9, 8], 7), (100019, [4, 3, 28, 29, 30, 5, 6, 7], 7), (26, [4, 3, 28, 29, 30, 5], 7), (100030, [4, 3, 28, 29, 30, 10, 5], 8), (100031, [4, 3, 28, 29, 5, 30], 7), (32, [4, 97, 3, 28, 29, 5, 30, 98, 99], 30), (100033, [4, 97, 3, 28, 29, 5, 30, 98, 99], 8)]
def cuts_law_r19 : Cuts := [(100006, [4, 3, 5, 0], 30), (7, [4, 3, 28, 29, 30, 5], 7), (100012, [4, 3, 28, 29, 30, 5, 6, 7, 9, 8], 7), (100014, [4, 3, 28, 29, 30, 5, 6, 7, 8], 7), (26, [4, 3, 28, 29, 30, 5], 7), (100030, [4, 3, 28, 29, 30, 10, 5], 8), (100031, [4, 3, 28, 29, 5, 30], 7), (32, [4, 97, 3, 28, 29, 5, 30, 98, 99], 30), (100033, [4, 97, 3, 28, 29, 5, 30, 98, 99], 8)]
def cuts_law_r30 : Cuts := [(100006, [4, 3, 5, 0], 30), (7, [4, 3, 28, 29, 30, 5], 7), (100012, [4, 3, 28, 29, 30, 5, 6, 7, 9, 8], 7), (100014, [4, 3, 28, 29, 30, 5, 6, 7, 8], 7), (100019, [4, 3, 28, 29, 30, 5, 6, 7], 7), (26, [4, 3, 28, 29, 30, 5], 7), (100031, [4, 3, 28, 29, 5, 30], 7), (32, [4, 97, 3, 28, 29, 5, 30, 98, 99], 30), (100033, [4, 97, 3, 28, 29, 5, 30, 98, 99], 8)]
def cuts_law_r31 : Cuts := [(100006, [4, 3, 5, 0], 30), (7, [4, 3, 28, 29, 30, 5], 7), (100012, [4, 3, 28, 29, 30, 5, 6, 7, 9, 8], 7), (100014, [4, 3, 28, 29, 30, 5, 6, 7, 8], 7), (100019, [4, 3, 28, 29, 30, 5, 6, 7], 7), (26, [4, 3, 28, 29, 30, 5], 7), (100030, [4, 3, 28, 29, 30, 10, 5], 8), (32, [4, 97, 3, 28, 29, 5, 30, 98, 99], 30), (100033, [4, 97, 3, 28, 29, 5, 30, 98, 99], 8)]
def cuts_law_r33 : Cuts := [(100006, [4, 3, 5, 0], 30), (7, [4, 3, 28, 29, 30, 5], 7), (100012, [4, 3, 28, 29, 30, 5, 6, 7, 9, 8], 7), (100014, [4, 3, 28, 29, 30, 5, 6, 7, 8], 7), (100019, [4, 3, 28, 29, 30, 5, 6, 7], 7), (26, [4, 3, 28, 29, 30, 5], 7), (100030, [4, 3, 28, 29, 30, 10, 5], 8), (100031, [4, 3, 28, 29, 5, 30], 7), (32, [4, 97, 3, 28, 29, 5, 30, 98, 99], 30)]
def cuts_law_r33b : Cuts := [(100006, [4, 3, 5, 0], 30), (7, [4, 3, 28, 29, 30, 5], 7), (100012, [4, 3, 28, 29, 30, 5, 6, 7, 9, 8], 7), (100014, [4, 3, 28, 29, 30, 5, 6, 7, 8], 7), (100019, [4, 3, 28, 29, 30, 5, 6, 7], 7), (26, [4, 3, 28, 29, 30, 5], 7), (100030, [4, 3, 28, 29, 30, 10, 5], 8), (100031, [4, 3, 28, 29, 5, 30], 7), (32, [4, 97, 3, 28, 29, 5, 30, 98, 99], 30)]

theorem law_t0 (l : List Int) (l_t : Bool) : symF C_hsam cuts_law Tryz.f3.results.toList 1 400 [.code (codeOf Tryz.f3)] ⟨argsS Tryz.f3 [.c (.slc 0 0 (List.length l) l_t)], ([.inp 0 l] : Heap cod)⟩ =
.need (True) (
.ret (.cut (regAt Tryz.f3 6) ⟨tmG 114 [(0, .c (.slc 0 0 (List.length l) l_t)), (2, .c (.ptr 2 0 0)), (0, .c (.fn 6 [(2, 0, 0)])), (0, .c (.nil))], [.inp 0 l, .blk [.nil, .nil, .nil, .int .i64 1, .int .i64 0, .int .i64 0] 50, .blk [.ptr 1 0 0] 23]⟩)) := by kernel_rfl


noncomputable def st_law_r6 (l : List Int) (l_t : Bool)  : St cod := ⟨tmG 114 [(0, .c (.slc 0 0 (List.length l) l_t)), (2, .c (.ptr 2 0 0)), (0, .c (.fn 6 [(2, 0, 0)])), (0, .c (.nil))], [.inp 0 l, .blk [.nil, .nil, .nil, .int .i64 1, .int .i64 0, .int .i64 0] 50, .blk [.ptr 1 0 0] 23]⟩


noncomputable def st_law_r6b (l : List Int) (l_t : Bool)  : St cod := ⟨tmG 114 [(0, .c (.slc 0 0 (List.length l) l_t)), (2, .c (.ptr 2 0 0)), (0, .c (.fn 6 [(2, 0, 0)])), (0, .c (.own 6 0))], ([.inp 0 l, .blk [.own 3 0, .own 4 0, .own 5 0, .int .i64 1, .int .i64 0, .int .i64 0] 50, .blk [.ptr 1 0 0] 23, .own 2 [] 9, .own 2 [] 9, .own 6 [] 61, .nown 1 [] [] [] 26 56] : Heap cod)⟩


theorem law_tr6b (l : List Int) (l_t : Bool)  : symF C_hsam cuts_law_r6b Tryz.f3.results.toList 1 400 (regAt Tryz.f3 6) (st_law_r6b l l_t ) =
.need (((0 : Int) ≤ min (Int.ofNat (List.length l)) 40 ∧ min (Int.ofNat (List.length l)) 40 ≤ Int.ofNat (List.length l))) (
.ret (.cut (cutAt Tryz.f3 7) ⟨tmG 89 [(3, .c (.ptr 2 0 0)), (0, .c (.fn 6 [(2, 0, 0)])), (0, .c (.own 6 0)), (22, .c (.slc 0 0 (Int.toNat (min (Int.ofNat (List.length l)) 40)) false)), (0, .c (.int .i64 (Int.ofNat (Int.toNat (min (Int.ofNat (List.length l)) 40))))), (0, .c (.int .i64 0))], [.inp 0 l, .blk [.own 3 0, .own 4 0, .own 5 0, .int .i64 1, .int .i64 0, .int .i64 0] 50, .blk [.ptr 1 0 0] 23, .own 2 [] 9, .own 2 [] 9, .own 6 [] 61, .nown 1 ([]) [] [] 26 56]⟩)) := by kernel_rfl


noncomputable def st_law_7 (l : List Int) (l_t : Bool) (P S : List (List UInt8)) (W : List (Int × Int × Bool × List UInt8)) (t d a : Int) (Z : List (List (List UInt8 × List UInt8))) (zn m k : Nat) : St cod := ⟨tmG 89 [(3, .c (.ptr 2 0 0)), (0, .c (.fn 6 [(2, 0, 0)])), (0, .c (.own 6 zn)), (22, .c (.slc 0 0 m false)), (0, .c (.int .i64 (m : Int))), (0, .c (.int .i64 (k : Int)))], ([.inp 0 l, .blk [.own 3 (List.length P), .own 4 (List.length S), .own 5 (List.length W), .int .i64 t, .int .i64 d, .int .i64 a] 50, .blk [.ptr 1 0 0] 23, .own 2 P 9, .own 2 S 9, .own 6 W 61, .nown 1 Z [] [] 26 56] : Heap cod)⟩


theorem law_t7 (l : List Int) (l_t : Bool) (P S : List (List UInt8)) (W : List (Int × Int × Bool × List UInt8)) (t d a : Int) (Z : List (List (List UInt8 × List UInt8))) (zn m k : Nat) : symF C_hsam cuts_law Tryz.f3.results.toList 1 400 (cutAt Tryz.f3 7) (st_law_7 l l_t P S W t d a Z zn m k) =
 cond (decide (Int.ofNat k < Int.ofNat m)) (
 .need (((0 : Int) ≤ Int.ofNat k ∧ Int.ofNat k < Int.ofNat m)) (
 .need (0 + Int.toNat (Int.ofNat k) < List.length l) (
 .need ((10 : Int) ≠ 0) (
 .need (i64ok (Int.tdiv (List.getD l (0 + Int.toNat (Int.ofNat k)) (cod 0).d % 80) 10)) (
 .ite (decide (List.length W = 0)) (
  .need ((HObj.blk (cod := cod) [Cell.own 1 (List.length P), Cell.own 2 (List.length S), Cell.own 3 (List.length W), Cell.int IntKind.i64 t,       Cell.int IntKind.i64 d, Cell.int IntKind.i64 a] 50 : HObj cod) =   HObj.blk     [Cell.own 1 (List.length P), Cell.own 2 (List.length S), Cell.own 3 (List.length W), Cell.int IntKind.i64 t,       Cell.int IntKind.i64 d, Cell.int IntKind.i64 a]     50) (
  .need (W = []) (
  .ret (.cut (regAt Tryz.f3 12) ⟨tmG 89 [(3, .c (.ptr 2 0 0)), (0, .c (.fn 6 [(2, 0, 0)])), (0, .c (.own 6 (zn))), (0, .c (.int .i64 (Int.ofNat k))), (0, .c (.int .i64 (List.getD l (0 + Int.toNat (Int.ofNat k)) (cod 0).d % 80))), (0, .c (.int .i64 (Int.tdiv (List.getD l (0 + Int.toNat (Int.ofNat k)) (cod 0).d % 80) 10))), (0, .c (.int .i64 (Int.ofNat 0))), (18, .c (.slc 0 0 (m) false)), (0, .c (.int .i64 (Int.ofNat m))), (0, .c (.int .i64 (Int.ofNat k)))], [.inp 0 l, .blk [.own 3 (List.length P), .own 4 (List.length S), .own 5 (List.length W), .int .i64 t, .int .i64 d, .int .i64 a] 50, .blk [.ptr 1 0 0] 23, .own 2 P 9, .own 2 S 9, .own 6 W 61, .nown 1 (Z) [] [] 26 56]⟩)))) (
  .need ((HObj.blk (cod := cod) [Cell.own 1 (List.length P), Cell.own 2 (List.length S), Cell.own 3 (List.length W), Cell.int IntKind.i64 t,       Cell.int IntKind.i64 d, Cell.int IntKind.i64 a] 50 : HObj cod) =   HObj.blk     [Cell.own 1 (List.length P), Cell.own 2 (List.length S), Cell.own 3 (List.length W), Cell.int IntKind.i64 t,       Cell.int IntKind.i64 d, Cell.int IntKind.i64 a]     50) (
  .need (((0 : Nat) < List.length W ∧ List.length W ≤ 64)) (
  .ret (.cut (regAt Tryz.f3 12) ⟨tmG 89 [(3, .c (.ptr 2 0 0)), (0, .c (.fn 6 [(2, 0, 0)])), (0, .c (.own 6 (zn))), (0, .c (.int .i64 (Int.ofNat k))), (0, .c (.int .i64 (List.getD l (0 + Int.toNat (Int.ofNat k)) (cod 0).d % 80))), (0, .c (.int .i64 (Int.tdiv (List.getD l (0 + Int.toNat (Int.ofNat k)) (cod 0).d % 80) 10))), (0, .c (.int .i64 (Int.ofNat (List.length W)))), (18, .c (.slc 0 0 (m) false)), (0, .c (.int .i64 (Int.ofNat m))), (0, .c (.int .i64 (Int.ofNat k)))], [.inp 0 l, .blk [.own 3 (List.length P), .own 4 (List.length S), .own 5 (List.length W), .int .i64 t, .int .i64 d, .int .i64 a] 50, .blk [.ptr 1 0 0] 23, .own 2 P 9, .own 2 S 9, .own 6 W 61, .nown 1 (Z) [] [] 26 56]⟩))))))))) (
 .ret (.fin (.c (.bool true)) [])) := by kernel_rfl


noncomputable def st_law_r12 (l : List Int) (l_t : Bool) (P S : List (List UInt8)) (W : List (Int × Int × Bool × List UInt8)) (t d a : Int) (Z : List (List (List UInt8 × List UInt8))) (zn m k : Nat) (c ix wn : Int) : St cod := ⟨tmG 89 [(3, .c (.ptr 2 0 0)), (0, .c (.fn 6 [(2, 0, 0)])), (0, .c (.own 6 zn)), (0, .c (.int .i64 (k : Int))), (0, .c (.int .i64 c)), (0, .c (.int .i64 ix)), (0, .c (.int .i64 wn)), (18, .c (.slc 0 0 m false)), (0, .c (.int .i64 (m : Int))), (0, .c (.int .i64 (k : Int)))], ([.inp 0 l, .blk [.own 3 (List.length P), .own 4 (List.length S), .own 5 (List.length W), .int .i64 t, .int .i64 d, .int .i64 a] 50, .blk [.ptr 1 0 0] 23, .own 2 P 9, .own 2 S 9, .own 6 W 61, .nown 1 Z [] [] 26 56] : Heap cod)⟩


theorem law_tr12 (l : List Int) (l_t : Bool) (P S : List (List UInt8)) (W : List (Int × Int × Bool × List UInt8)) (t d a : Int) (Z : List (List (List UInt8 × List UInt8))) (zn m k : Nat) (c ix wn : Int) : symF C_hsam cuts_law_r12 Tryz.f3.results.toList 1 400 (regAt Tryz.f3 12) (st_law_r12 l l_t P S W t d a Z zn m k c ix wn) =
 cond (decide (0 < wn)) (
 .need (wn ≠ 0) (
 .ret (.cut (regAt Tryz.f3 14) ⟨tmG 89 [(3, .c (.ptr 2 0 0)), (0, .c (.fn 6 [(2, 0, 0)])), (0, .c (.own 6 (zn))), (0, .c (.int .i64 (Int.ofNat k))), (0, .c (.int .i64 c)), (0, .c (.int .i64 (Int.tmod ix wn))), (19, .c (.slc 0 0 (m) false)), (0, .c (.int .i64 (Int.ofNat m))), (0, .c (.int .i64 (Int.ofNat k)))], [.inp 0 l, .blk [.own 3 (List.length P), .own 4 (List.length S), .own 5 (List.length W), .int .i64 t, .int .i64 d, .int .i64 a] 50, .blk [.ptr 1 0 0] 23, .own 2 P 9, .own 2 S 9, .own 6 W 61, .nown 1 (Z) [] [] 26 56]⟩))) (
 .ret (.cut (regAt Tryz.f3 14) ⟨tmG 89 [(3, .c (.ptr 2 0 0)), (0, .c (.fn 6 [(2, 0, 0)])), (0, .c (.own 6 (zn))), (0, .c (.int .i64 (Int.ofNat k))), (0, .c (.int .i64 c)), (0, .c (.int .i64 ix)), (19, .c (.slc 0 0 (m) false)), (0, .c (.int .i64 (Int.ofNat m))), (0, .c (.int .i64 (Int.ofNat k)))], [.inp 0 l, .blk [.own 3 (List.length P), .own 4 (List.length S), .own 5 (List.length W), .int .i64 t, .int .i64 d, .int .i64 a] 50, .blk [.ptr 1 0 0] 23, .own 2 P 9, .own 2 S 9, .own 6 W 61, .nown 1 (Z) [] [] 26 56]⟩)) := by kernel_rfl


noncomputable def st_law_r14 (l : List Int) (l_t : Bool) (P S : List (List UInt8)) (W : List (Int × Int × Bool × List UInt8)) (t d a : Int) (Z : List (List (List UInt8 × List UInt8))) (zn m k : Nat) (c ix : Int) : St cod := ⟨tmG 89 [(3, .c (.ptr 2 0 0)), (0, .c (.fn 6 [(2, 0, 0)])), (0, .c (.own 6 (zn))), (0, .c (.int .i64 (Int.ofNat k))), (0, .c (.int .i64 c)), (0, .c (.int .i64 ix)), (19, .c (.slc 0 0 (m) false)), (0, .c (.int .i64 (Int.ofNat m))), (0, .c (.int .i64 (Int.ofNat k)))], [.inp 0 l, .blk [.own 3 (List.length P), .own 4 (List.length S), .own 5 (List.length W), .int .i64 t, .int .i64 d, .int .i64 a] 50, .blk [.ptr 1 0 0] 23, .own 2 P 9, .own 2 S 9, .own 6 W 61, .nown 1 (Z) [] [] 26 56]⟩


theorem law_tr14 (l : List Int) (l_t : Bool) (P S : List (List UInt8)) (W : List (Int × Int × Bool × List UInt8)) (t d a : Int) (Z : List (List (List UInt8 × List UInt8))) (zn m k : Nat) (c ix : Int) : symF C_hsam cuts_law_r14 Tryz.f3.results.toList 1 400 (regAt Tryz.f3 14) (st_law_r14 l l_t P S W t d a Z zn m k c ix) =
.need ((10 : Int) ≠ 0) (
 cond (decide (Int.tmod c 10 = 0)) (
 .ret (.cut (regAt Tryz.f3 19) ⟨tmG 89 [(3, .c (.ptr 2 0 0)), (0, .c (.fn 6 [(2, 0, 0)])), (0, .c (.own 6 (zn))), (0, .c (.int .i64 (Int.ofNat k))), (0, .c (.int .i64 c)), (20, .c (.slc 0 0 (m) false)), (0, .c (.int .i64 (Int.ofNat m))), (0, .c (.int .i64 (Int.ofNat k)))], [.inp 0 l, .blk [.own 3 (List.length P), .own 4 (List.length S), .own 5 (List.length W), .int .i64 t, .int .i64 d, .int .i64 a] 50, .blk [.ptr 1 0 0] 23, .own 2 P 9, .own 2 S 9, .own 6 W 61, .nown 1 (Z) [] [] 26 56]⟩)) (
 cond (decide (Int.tmod c 10 = 1)) (
  .ret (.cut (regAt Tryz.f3 19) ⟨tmG 89 [(3, .c (.ptr 2 0 0)), (0, .c (.fn 6 [(2, 0, 0)])), (0, .c (.own 6 (zn))), (0, .c (.int .i64 (Int.ofNat k))), (0, .c (.int .i64 c)), (20, .c (.slc 0 0 (m) false)), (0, .c (.int .i64 (Int.ofNat m))), (0, .c (.int .i64 (Int.ofNat k)))], [.inp 0 l, .blk [.own 3 (List.length P), .own 4 (List.length S), .own 5 (List.length W), .int .i64 t, .int .i64 d, .int .i64 a] 50, .blk [.ptr 1 0 0] 23, .own 2 P 9, .own 2 S 9, .own 6 W 61, .nown 1 (Z) [] [] 26 56]⟩)) (
  cond (decide (Int.tmod c 10 = 2)) (
   .ret (.cut (regAt Tryz.f3 19) ⟨tmG 89 [(3, .c (.ptr 2 0 0)), (0, .c (.fn 6 [(2, 0, 0)])), (0, .c (.own 6 (zn))), (0, .c (.int .i64 (Int.ofNat k))), (0, .c (.int .i64 c)), (20, .c (.slc 0 0 (m) false)), (0, .c (.int .i64 (Int.ofNat m))), (0, .c (.int .i64 (Int.ofNat k)))], [.inp 0 l, .blk [.own 3 (List.length P), .own 4 (List.length S), .own 5 (List.length W), .int .i64 t, .int .i64 d, .int .i64 a] 50, .blk [.ptr 1 0 0] 23, .own 2 P 9, .own 2 S 9, .own 6 W 61, .nown 1 (Z) [] [] 26 56]⟩)) (
   cond (decide (Int.tmod c 10 = 3)) (
    .need ((HObj.blk (cod := cod) [Cell.own 1 (List.length P), Cell.own 2 (List.length S), Cell.own 3 (List.length W), Cell.int IntKind.i64 t,       Cell.int IntKind.i64 d, Cell.int IntKind.i64 a] 50 : HObj cod) =   HObj.blk     [Cell.own 1 (List.length P), Cell.own 2 (List.length S), Cell.own 3 (List.length W), Cell.int IntKind.i64 t,       Cell.int IntKind.i64 d, Cell.int IntKind.i64 a]     50) (
    .need (List.length W ≤ 64) (
    .ret (.cut (cutAt Tryz.f3 26) ⟨tmG 89 [(3, .c (.ptr 2 0 0)), (0, .c (.fn 6 [(2, 0, 0)])), (0, .c (.own 6 (zn))), (22, .c (.slc 0 0 (m) false)), (0, .c (.int .i64 (Int.ofNat m))), (0, .c (.int .i64 (Int.ofNat k)))], [.inp 0 l, .blk [.own 3 (List.length P), .own 4 (List.length S), .own 5 (List.length (F.drp { P := P, S := S, W := W, t := t, d := d, a := a } ix).W), .int .i64 t, .int .i64 d, .int .i64 a] 50, .blk [.ptr 1 0 0] 23, .own 2 P 9, .own 2 S 9, .own 6 ((F.drp { P := P, S := S, W := W, t := t, d := d, a := a } ix).W) 61, .nown 1 (Z) [] [] 26 56]⟩)))) (
    cond (decide (Int.tmod c 10 = 4)) (
     .need ((HObj.blk (cod := cod) [Cell.own 1 (List.length P), Cell.own 2 (List.length S), Cell.own 3 (List.length W), Cell.int IntKind.i64 t,       Cell.int IntKind.i64 d, Cell.int IntKind.i64 a] 50 : HObj cod) =   HObj.blk     [Cell.own 1 (List.length P), Cell.own 2 (List.length S), Cell.own 3 (List.length W), Cell.int IntKind.i64 t,       Cell.int IntKind.i64 d, Cell.int IntKind.i64 a]     50) (
     .need ((List.length W ≤ 64 ∧ (List.length P ≤ 64 ∧ ((0 : Int) ≤ d ∧ d ≤ Int.ofNat (List.length P))))) (
     .ret (.cut (cutAt Tryz.f3 26) ⟨tmG 89 [(3, .c (.ptr 2 0 0)), (0, .c (.fn 6 [(2, 0, 0)])), (0, .c (.own 6 (zn))), (22, .c (.slc 0 0 (m) false)), (0, .c (.int .i64 (Int.ofNat m))), (0, .c (.int .i64 (Int.ofNat k)))], [.inp 0 l, .blk [.own 3 (List.length P), .own 4 (List.length S), .own 5 (List.length (F.sndW W (F.resA { P := P, S := S, W := W, t := t, d := d, a := a }))), .int .i64 t, .int .i64 d, .int .i64 a] 50, .blk [.ptr 1 0 0] 23, .own 2 P 9, .own 2 S 9, .own 6 (F.sndW W (F.resA { P := P, S := S, W := W, t := t, d := d, a := a })) 61, .nown 1 (Z) [] [] 26 56]⟩)))) (
     cond (decide (Int.tmod c 10 = 5)) (
      .ite (decide (Int.ofNat (List.length S) < a)) (
       .need ((HObj.blk (cod := cod) [Cell.own 1 (List.length P), Cell.own 2 (List.length S), Cell.own 3 (List.length W), Cell.int IntKind.i64 t,       Cell.int IntKind.i64 d, Cell.int IntKind.i64 a] 50 : HObj cod) =   HObj.blk     [Cell.own 1 (List.length P), Cell.own 2 (List.length S), Cell.own 3 (List.length W), Cell.int IntKind.i64 t,       Cell.int IntKind.i64 d, Cell.int IntKind.i64 a]     50) (
       .need (Int.ofNat (List.length S) < a) (
       .ret (.cut (cutAt Tryz.f3 26) ⟨tmG 89 [(3, .c (.ptr 2 0 0)), (0, .c (.fn 6 [(2, 0, 0)])), (0, .c (.own 6 (zn))), (22, .c (.slc 0 0 (m) false)), (0, .c (.int .i64 (Int.ofNat m))), (0, .c (.int .i64 (Int.ofNat k)))], [.inp 0 l, .blk [.own 3 (List.length P), .own 4 (List.length S), .own 5 (List.length W), .int .i64 t, .int .i64 d, .int .i64 a] 50, .blk [.ptr 1 0 0] 23, .own 2 P 9, .own 2 S 9, .own 6 W 61, .nown 1 (Z) [] [] 26 56]⟩)))) (
       .need ((HObj.blk (cod := cod) [Cell.own 1 (List.length P), Cell.own 2 (List.length S), Cell.own 3 (List.length W), Cell.int IntKind.i64 t,       Cell.int IntKind.i64 d, Cell.int IntKind.i64 a] 50 : HObj cod) =   HObj.blk     [Cell.own 1 (List.length P), Cell.own 2 (List.length S), Cell.own 3 (List.length W), Cell.int IntKind.i64 t,       Cell.int IntKind.i64 d, Cell.int IntKind.i64 a]     50) (
       .need ((¬Int.ofNat (List.length S) < a ∧ i64ok (t + 1))) (
       .ret (.cut (cutAt Tryz.f3 26) ⟨tmG 89 [(3, .c (.ptr 2 0 0)), (0, .c (.fn 6 [(2, 0, 0)])), (0, .c (.own 6 (zn))), (22, .c (.slc 0 0 (m) false)), (0, .c (.int .i64 (Int.ofNat m))), (0, .c (.int .i64 (Int.ofNat k)))], [.inp 0 l, .blk [.own 4 (List.length S), .nil, .own 5 (List.length W), .int .i64 (t + 1), .int .i64 0, .int .i64 a] 50, .blk [.ptr 1 0 0] 23, .own 2 P 9, .own 2 S 9, .own 6 W 61, .nown 1 (Z) [] [] 26 56]⟩))))) (
      .need ((HObj.blk (cod := cod) [Cell.own 1 (List.length P), Cell.own 2 (List.length S), Cell.own 3 (List.length W), Cell.int IntKind.i64 t,       Cell.int IntKind.i64 d, Cell.int IntKind.i64 a] 50 : HObj cod) =   HObj.blk     [Cell.own 1 (List.length P), Cell.own 2 (List.length S), Cell.own 3 (List.length W), Cell.int IntKind.i64 t,       Cell.int IntKind.i64 d, Cell.int IntKind.i64 a]     50) (
      .need ((List.length W ≤ 64 ∧ (List.length P ≤ 64 ∧ List.length S ≤ 64))) (
      .ret (.cut (cutAt Tryz.f3 26) ⟨tmG 89 [(3, .c (.ptr 2 0 0)), (0, .c (.fn 6 [(2, 0, 0)])), (0, .c (.own 6 (zn))), (22, .c (.slc 0 0 (m) false)), (0, .c (.int .i64 (Int.ofNat m))), (0, .c (.int .i64 (Int.ofNat k)))], [.inp 0 l, .blk [.own 3 (List.length P), .own 4 (List.length (F.dlv { P := P, S := S, W := W, t := t, d := d, a := a } ix).S), .own 5 (List.length (F.dlv { P := P, S := S, W := W, t := t, d := d, a := a } ix).W), .int .i64 t, .int .i64 ((F.dlv { P := P, S := S, W := W, t := t, d := d, a := a } ix).d), .int .i64 ((F.dlv { P := P, S := S, W := W, t := t, d := d, a := a } ix).a)] 50, .blk [.ptr 1 0 0] 23, .own 2 P 9, .own 2 ((F.dlv { P := P, S := S, W := W, t := t, d := d, a := a } ix).S) 9, .own 6 ((F.dlv { P := P, S := S, W := W, t := t, d := d, a := a } ix).W) 61, .nown 1 (Z) [] [] 26 56]⟩)))))))))) := by kernel_rfl


noncomputable def st_law_r19 (l : List Int) (l_t : Bool) (P S : List (List UInt8)) (W : List (Int × Int × Bool × List UInt8)) (t d a : Int) (Z : List (List (List UInt8 × List UInt8))) (zn m k : Nat) (c : Int) : St cod := ⟨tmG 89 [(3, .c (.ptr 2 0 0)), (0, .c (.fn 6 [(2, 0, 0)])), (0, .c (.own 6 (zn))), (0, .c (.int .i64 (Int.ofNat k))), (0, .c (.int .i64 c)), (20, .c (.slc 0 0 (m) false)), (0, .c (.int .i64 (Int.ofNat m))), (0, .c (.int .i64 (Int.ofNat k)))], [.inp 0 l, .blk [.own 3 (List.length P), .own 4 (List.length S), .own 5 (List.length W), .int .i64 t, .int .i64 d, .int .i64 a] 50, .blk [.ptr 1 0 0] 23, .own 2 P 9, .own 2 S 9, .own 6 W 61, .nown 1 (Z) [] [] 26 56]⟩


noncomputable def st_law_26 (l : List Int) (l_t : Bool) (P S : List (List UInt8)) (W : List (Int × Int × Bool × List UInt8)) (t d a : Int) (Z : List (List (List UInt8 × List UInt8))) (zn m k : Nat) : St cod := ⟨tmG 89 [(3, .c (.ptr 2 0 0)), (0, .c (.fn 6 [(2, 0, 0)])), (0, .c (.own 6 zn)), (22, .c (.slc 0 0 m false)), (0, .c (.int .i64 (m : Int))), (0, .c (.int .i64 (k : Int)))], ([.inp 0 l, .blk [.own 3 (List.length P), .own 4 (List.length S), .own 5 (List.length W), .int .i64 t, .int .i64 d, .int .i64 a] 50, .blk [.ptr 1 0 0] 23, .own 2 P 9, .own 2 S 9, .own 6 W 61, .nown 1 Z [] [] 26 56] : Heap cod)⟩


theorem law_t26 (l : List Int) (l_t : Bool) (P S : List (List UInt8)) (W : List (Int × Int × Bool × List UInt8)) (t d a : Int) (Z : List (List (List UInt8 × List UInt8))) (zn m k : Nat) : symF C_hsam cuts_law Tryz.f3.results.toList 1 400 (cutAt Tryz.f3 26) (st_law_26 l l_t P S W t d a Z zn m k) =
.need ((HObj.blk (cod := cod) [Cell.own 1 (List.length P), Cell.own 2 (List.length S), Cell.own 3 (List.length W), Cell.int IntKind.i64 t,       Cell.int IntKind.i64 d, Cell.int IntKind.i64 a] 50 : HObj cod) =   HObj.blk     [Cell.own 1 (List.length P), Cell.own 2 (List.length S), Cell.own 3 (List.length W), Cell.int IntKind.i64 t,       Cell.int IntKind.i64 d, Cell.int IntKind.i64 a]     50) (
 cond (decide (Int.ofNat zn ≤ a)) (
 .need ((HObj.blk (cod := cod) [Cell.own 2 (List.length P), Cell.own 3 (List.length S), Cell.own 4 (List.length W), Cell.int IntKind.i64 t,       Cell.int IntKind.i64 d, Cell.int IntKind.i64 a] 50 : HObj cod) =   HObj.blk     [Cell.own 2 (List.length P), Cell.own 3 (List.length S), Cell.own 4 (List.length W), Cell.int IntKind.i64 t,       Cell.int IntKind.i64 d, Cell.int IntKind.i64 a]     50) (
 .need (((0 : Int) ≤ Int.ofNat zn ∧ (Int.ofNat zn ≤ Int.ofNat (List.length P) ∧ F.okTs P))) (
 .ret (.cut (regAt Tryz.f3 30) ⟨tmG 89 [(3, .c (.ptr 2 0 0)), (0, .c (.fn 6 [(2, 0, 0)])), (0, .c (.own 6 (zn))), (4, .c (.own 7 (List.length (F.runT [] (List.take (Int.toNat (Int.ofNat zn)) P))))), (17, .c (.slc 0 0 (m) false)), (0, .c (.int .i64 (Int.ofNat m))), (0, .c (.int .i64 (Int.ofNat k)))], [.inp 0 l, .blk [.own 3 (List.length P), .own 4 (List.length S), .own 5 (List.length W), .int .i64 t, .int .i64 d, .int .i64 a] 50, .blk [.ptr 1 0 0] 23, .own 2 P 9, .own 2 S 9, .own 6 W 61, .nown 1 (Z) [] [] 26 56, .own 1 (F.runT [] (List.take (Int.toNat (Int.ofNat zn)) P)) 56]⟩)))) (
 .ret (.cut (regAt Tryz.f3 31) ⟨tmG 89 [(3, .c (.ptr 2 0 0)), (0, .c (.fn 6 [(2, 0, 0)])), (0, .c (.own 6 (zn))), (22, .c (.slc 0 0 (m) false)), (0, .c (.int .i64 (Int.ofNat m))), (0, .c (.int .i64 (Int.ofNat k)))], [.inp 0 l, .blk [.own 3 (List.length P), .own 4 (List.length S), .own 5 (List.length W), .int .i64 t, .int .i64 d, .int .i64 a] 50, .blk [.ptr 1 0 0] 23, .own 2 P 9, .own 2 S 9, .own 6 W 61, .nown 1 (Z) [] [] 26 56]⟩))) := by kernel_rfl


noncomputable def st_law_r30 (l : List Int) (l_t : Bool) (P S : List (List UInt8)) (W : List (Int × Int × Bool × List UInt8)) (t d a : Int) (Z : List (List (List UInt8 × List UInt8))) (zn m k : Nat) (r : List (List UInt8 × List UInt8)) (q : Nat) : St cod := ⟨tmG 89 [(3, .c (.ptr 2 0 0)), (0, .c (.fn 6 [(2, 0, 0)])), (0, .c (.own 6 zn)), (4, .c (.own 7 q)), (17, .c (.slc 0 0 m false)), (0, .c (.int .i64 (m : Int))), (0, .c (.int .i64 (k : Int)))], ([.inp 0 l, .blk [.own 3 (List.length P), .own 4 (List.length S), .own 5 (List.length W), .int .i64 t, .int .i64 d, .int .i64 a] 50, .blk [.ptr 1 0 0] 23, .own 2 P 9, .own 2 S 9, .own 6 W 61, .nown 1 Z [] [] 26 56, .own 1 r 56] : Heap cod)⟩


noncomputable def st_law_r31 (l : List Int) (l_t : Bool) (P S : List (List UInt8)) (W : List (Int × Int × Bool × List UInt8)) (t d a : Int) (Z : List (List (List UInt8 × List UInt8))) (zn m k : Nat) : St cod := ⟨tmG 89 [(3, .c (.ptr 2 0 0)), (0, .c (.fn 6 [(2, 0, 0)])), (0, .c (.own 6 (zn))), (22, .c (.slc 0 0 (m) false)), (0, .c (.int .i64 (Int.ofNat m))), (0, .c (.int .i64 (Int.ofNat k)))], [.inp 0 l, .blk [.own 3 (List.length P), .own 4 (List.length S), .own 5 (List.length W), .int .i64 t, .int .i64 d, .int .i64 a] 50, .blk [.ptr 1 0 0] 23, .own 2 P 9, .own 2 S 9, .own 6 W 61, .nown 1 (Z) [] [] 26 56]⟩


theorem law_tr31 (l : List Int) (l_t : Bool) (P S : List (List UInt8)) (W : List (Int × Int × Bool × List UInt8)) (t d a : Int) (Z : List (List (List UInt8 × List UInt8))) (zn m k : Nat) : symF C_hsam cuts_law_r31 Tryz.f3.results.toList 1 400 (regAt Tryz.f3 31) (st_law_r31 l l_t P S W t d a Z zn m k) =
.ret (.cut (cutAt Tryz.f3 32) ⟨tmG 20 [(3, .c (.ptr 2 0 0)), (0, .c (.fn 6 [(2, 0, 0)])), (0, .c (.own 6 (zn))), (22, .c (.slc 0 0 (m) false)), (0, .c (.int .i64 (Int.ofNat m))), (0, .c (.int .i64 (Int.ofNat k))), (66, .c (.own 6 (zn))), (0, .c (.int .i64 (Int.ofNat zn))), (0, .c (.int .i64 0))], [.inp 0 l, .blk [.own 3 (List.length P), .own 4 (List.length S), .own 5 (List.length W), .int .i64 t, .int .i64 d, .int .i64 a] 50, .blk [.ptr 1 0 0] 23, .own 2 P 9, .own 2 S 9, .own 6 W 61, .nown 1 (Z) [] [] 26 56]⟩) := by kernel_rfl


noncomputable def st_law_32 (l : List Int) (l_t : Bool) (P S : List (List UInt8)) (W : List (Int × Int × Bool × List UInt8)) (t d a : Int) (Z : List (List (List UInt8 × List UInt8))) (zn m k : Nat) (n : Nat) : St cod := ⟨tmG 20 [(3, .c (.ptr 2 0 0)), (0, .c (.fn 6 [(2, 0, 0)])), (0, .c (.own 6 zn)), (22, .c (.slc 0 0 m false)), (0, .c (.int .i64 (m : Int))), (0, .c (.int .i64 (k : Int))), (66, .c (.own 6 zn)), (0, .c (.int .i64 (zn : Int))), (0, .c (.int .i64 (n : Int)))], ([.inp 0 l, .blk [.own 3 (List.length P), .own 4 (List.length S), .own 5 (List.length W), .int .i64 t, .int .i64 d, .int .i64 a] 50, .blk [.ptr 1 0 0] 23, .own 2 P 9, .own 2 S 9, .own 6 W 61, .nown 1 Z [] [] 26 56] : Heap cod)⟩


theorem law_t32 (l : List Int) (l_t : Bool) (P S : List (List UInt8)) (W : List (Int × Int × Bool × List UInt8)) (t d a : Int) (Z : List (List (List UInt8 × List UInt8))) (zn m k : Nat) (n : Nat) : symF C_hsam cuts_law Tryz.f3.results.toList 1 400 (cutAt Tryz.f3 32) (st_law_32 l l_t P S W t d a Z zn m k n) =
 cond (decide (Int.ofNat n < Int.ofNat zn)) (
 .ret (.cut (regAt Tryz.f3 33) ⟨tmG 20 [(3, .c (.ptr 2 0 0)), (0, .c (.fn 6 [(2, 0, 0)])), (0, .c (.own 6 (zn))), (22, .c (.slc 0 0 (m) false)), (0, .c (.int .i64 (Int.ofNat m))), (0, .c (.int .i64 (Int.ofNat k))), (66, .c (.own 6 (zn))), (0, .c (.int .i64 (Int.ofNat zn))), (0, .c (.int .i64 (Int.ofNat n)))], [.inp 0 l, .blk [.own 3 (List.length P), .own 4 (List.length S), .own 5 (List.length W), .int .i64 t, .int .i64 d, .int .i64 a] 50, .blk [.ptr 1 0 0] 23, .own 2 P 9, .own 2 S 9, .own 6 W 61, .nown 1 (Z) [] [] 26 56]⟩)) (
 .need (i64ok (Int.ofNat k + 1)) (
 .ret (.cut (cutAt Tryz.f3 7) ⟨tmG 89 [(3, .c (.ptr 2 0 0)), (0, .c (.fn 6 [(2, 0, 0)])), (0, .c (.own 6 (zn))), (22, .c (.slc 0 0 (m) false)), (0, .c (.int .i64 (Int.ofNat m))), (0, .c (.int .i64 (Int.ofNat k + 1)))], [.inp 0 l, .blk [.own 3 (List.length P), .own 4 (List.length S), .own 5 (List.length W), .int .i64 t, .int .i64 d, .int .i64 a] 50, .blk [.ptr 1 0 0] 23, .own 2 P 9, .own 2 S 9, .own 6 W 61, .nown 1 (Z) [] [] 26 56]⟩))) := by kernel_rfl


noncomputable def st_law_r33 (l : List Int) (l_t : Bool) (P S : List (List UInt8)) (W : List (Int × Int × Bool × List UInt8)) (t d a : Int) (Z : List (List (List UInt8 × List UInt8))) (zn m k : Nat) (n : Nat) : St cod := ⟨tmG 20 [(3, .c (.ptr 2 0 0)), (0, .c (.fn 6 [(2, 0, 0)])), (0, .c (.own 6 (zn))), (22, .c (.slc 0 0 (m) false)), (0, .c (.int .i64 (Int.ofNat m))), (0, .c (.int .i64 (Int.ofNat k))), (66, .c (.own 6 (zn))), (0, .c (.int .i64 (Int.ofNat zn))), (0, .c (.int .i64 (Int.ofNat n)))], [.inp 0 l, .blk [.own 3 (List.length P), .own 4 (List.length S), .own 5 (List.length W), .int .i64 t, .int .i64 d, .int .i64 a] 50, .blk [.ptr 1 0 0] 23, .own 2 P 9, .own 2 S 9, .own 6 W 61, .nown 1 (Z) [] [] 26 56]⟩


noncomputable def st_law_r33b (l : List Int) (l_t : Bool) (P S : List (List UInt8)) (W : List (Int × Int × Bool × List UInt8)) (t d a : Int) (Z : List (List (List UInt8 × List UInt8))) (zn m k : Nat) (n p : Nat) (r : List (List UInt8 × List UInt8)) : St cod := ⟨tmG 20 [(3, .c (.ptr 2 0 0)), (0, .c (.fn 6 [(2, 0, 0)])), (0, .c (.own 6 (zn))), (22, .c (.slc 0 0 (m) false)), (0, .c (.int .i64 (Int.ofNat m))), (0, .c (.int .i64 (Int.ofNat k))), (66, .c (.own 6 (zn))), (0, .c (.int .i64 (Int.ofNat zn))), (0, .c (.int .i64 (Int.ofNat n)))], ([.inp 0 l, .blk [.own 3 (List.length P), .own 4 (List.length S), .own 5 (List.length W), .int .i64 t, .int .i64 d, .int .i64 a] 50, .blk [.ptr 1 0 0] 23, .own 2 P 9, .own 2 S 9, .own 6 W 61, .nown 1 Z [p] [.own 7 (List.length r)] 26 56, .own 1 r 56] : Heap cod)⟩


theorem law_tr33b (l : List Int) (l_t : Bool) (P S : List (List UInt8)) (W : List (Int × Int × Bool × List UInt8)) (t d a : Int) (Z : List (List (List UInt8 × List UInt8))) (zn m k : Nat) (n p : Nat) (r : List (List UInt8 × List UInt8)) : symF C_hsam cuts_law_r33b Tryz.f3.results.toList 1 400 (regAt Tryz.f3 33) (st_law_r33b l l_t P S W t d a Z zn m k n p r) =
.need (((0 : Int) ≤ Int.ofNat n ∧ Int.ofNat n < Int.ofNat zn)) (
.need ((0 + Int.toNat (Int.ofNat n) = p ∧ p < List.length Z)) (
.need ((HObj.blk (cod := cod) [Cell.own 2 (List.length P), Cell.own 3 (List.length S), Cell.own 4 (List.length W), Cell.int IntKind.i64 t,       Cell.int IntKind.i64 d, Cell.int IntKind.i64 a] 50 : HObj cod) =   HObj.blk     [Cell.own 2 (List.length P), Cell.own 3 (List.length S), Cell.own 4 (List.length W), Cell.int IntKind.i64 t,       Cell.int IntKind.i64 d, Cell.int IntKind.i64 a]     50) (
.need (((0 : Int) ≤ Int.ofNat n ∧ (Int.ofNat n ≤ Int.ofNat (List.length P) ∧ F.okTs P))) (
.need (((0 = 0 ∧ List.length (F.runT [] (List.take (Int.toNat (Int.ofNat n)) P)) =   List.length (F.runT [] (List.take (Int.toNat (Int.ofNat n)) P))) ∧ ((0 = 0 ∧ List.length r = List.length r) ∧ List.length (F.runT [] (List.take (Int.toNat (Int.ofNat n)) P)) ≤ 1000000))) (
 cond (!F.eqR (F.runT [] (List.take (Int.toNat (Int.ofNat n)) P)) r) (
 .ret (.fin (.c (.bool false)) [])) (
 .need (i64ok (Int.ofNat n + 1)) (
 .ret (.cut (cutAt Tryz.f3 32) ⟨tmG 20 [(3, .c (.ptr 2 0 0)), (0, .c (.fn 6 [(2, 0, 0)])), (0, .c (.own 6 (zn))), (22, .c (.slc 0 0 (m) false)), (0, .c (.int .i64 (Int.ofNat m))), (0, .c (.int .i64 (Int.ofNat k))), (66, .c (.own 6 (zn))), (0, .c (.int .i64 (Int.ofNat zn))), (0, .c (.int .i64 (Int.ofNat n + 1)))], [.inp 0 l, .blk [.own 3 (List.length P), .own 4 (List.length S), .own 5 (List.length W), .int .i64 t, .int .i64 d, .int .i64 a] 50, .blk [.ptr 1 0 0] 23, .own 2 P 9, .own 2 S 9, .own 6 W 61, .nown 1 (Z) [(p)] [.own 7 (List.length r)] 26 56, .own 1 r 56, .own 1 (F.runT [] (List.take (Int.toNat (Int.ofNat n)) P)) 56]⟩)))))))) := by kernel_rfl


theorem law_x19 (l : List Int) (l_t : Bool) (P S : List (List UInt8)) (W : List (Int × Int × Bool × List UInt8)) (t d a : Int) (Z : List (List (List UInt8 × List UInt8))) (zn m k : Nat) (c : Int) : ((preT C_hsam (preA QT19 9) [] (st_law_r19 l l_t P S W t d a Z zn m k c)).bind fun s => (Sym.lexT C_hsam (QT19.toList.drop 9) s).bind fun s2 => symF C_hsam cuts_law_r19 Tryz.f3.results.toList 1 400 (regAt Tryz.f3 19).tail s2) =
.need ((4 : Int) ≠ 0) (
.need (((0 : Int) ≤ Int.tmod c 4 ∧ Int.tmod c 4 ≤ 9223372036854775807)) (
.need (1 + List.length (F.itoa (Int.tmod c 4)) ≤ 9223372036854775807) (
.need (List.length ([107] ++ F.itoa (Int.tmod c 4)) + 1 ≤ 9223372036854775807) (
.need (((0 : Int) ≤ Int.ofNat k ∧ Int.ofNat k ≤ 9223372036854775807)) (
.need (List.length ([107] ++ F.itoa (Int.tmod c 4) ++ [32]) + List.length (F.itoa (Int.ofNat k)) ≤ 9223372036854775807) (
.need ((HObj.blk (cod := cod) [Cell.own 1 (List.length P), Cell.own 2 (List.length S), Cell.own 3 (List.length W), Cell.int IntKind.i64 t,       Cell.int IntKind.i64 d, Cell.int IntKind.i64 a] 50 : HObj cod) =   HObj.blk     [Cell.own 1 (List.length P), Cell.own 2 (List.length S), Cell.own 3 (List.length W), Cell.int IntKind.i64 t,       Cell.int IntKind.i64 d, Cell.int IntKind.i64 a]     50) (
.need ((List.length P ≤ 64 ∧ (List.length W ≤ 64 ∧ List.length ([107] ++ F.itoa (Int.tmod c 4) ++ [32] ++ F.itoa (Int.ofNat k)) ≤ 1000000))) (
.ret (.cut (cutAt Tryz.f3 26) ⟨tmG 89 [(3, .c (.ptr 2 0 0)), (0, .c (.fn 6 [(2, 0, 0)])), (0, .c (.own 6 (zn))), (22, .c (.slc 0 0 (m) false)), (0, .c (.int .i64 (Int.ofNat m))), (0, .c (.int .i64 (Int.ofNat k)))], [.inp 0 l, .blk [.own 3 (List.length   (F.subm { P := P, S := S, W := W, t := t, d := d, a := a }       ([107] ++ F.itoa (Int.tmod c 4) ++ [32] ++ F.itoa (Int.ofNat k))).P), .own 4 (List.length S), .own 5 (List.length   (F.subm { P := P, S := S, W := W, t := t, d := d, a := a }       ([107] ++ F.itoa (Int.tmod c 4) ++ [32] ++ F.itoa (Int.ofNat k))).W), .int .i64 t, .int .i64 d, .int .i64 a] 50, .blk [.ptr 1 0 0] 23, .own 2 ((F.subm { P := P, S := S, W := W, t := t, d := d, a := a }     ([107] ++ F.itoa (Int.tmod c 4) ++ [32] ++ F.itoa (Int.ofNat k))).P) 9, .own 2 S 9, .own 6 ((F.subm { P := P, S := S, W := W, t := t, d := d, a := a }     ([107] ++ F.itoa (Int.tmod c 4) ++ [32] ++ F.itoa (Int.ofNat k))).W) 61, .nown 1 (Z) [] [] 26 56]⟩))))))))) := by kernel_rfl


theorem law_y26 (l : List Int) (l_t : Bool) (P S : List (List UInt8)) (W : List (Int × Int × Bool × List UInt8)) (t d a : Int) (Z : List (List (List UInt8 × List UInt8))) (zn m k : Nat) : symF C_hsam cuts_law Tryz.f3.results.toList 1 400 (regAt Tryz.f3 30).tail (st_law_26 l l_t P S W t d a Z zn m k) =
.ret (.cut (cutAt Tryz.f3 26) ⟨tmG 89 [(3, .c (.ptr 2 0 0)), (0, .c (.fn 6 [(2, 0, 0)])), (0, .c (.own 6 (zn))), (22, .c (.slc 0 0 (m) false)), (0, .c (.int .i64 (Int.ofNat m))), (0, .c (.int .i64 (Int.ofNat k)))], [.inp 0 l, .blk [.own 3 (List.length P), .own 4 (List.length S), .own 5 (List.length W), .int .i64 t, .int .i64 d, .int .i64 a] 50, .blk [.ptr 1 0 0] 23, .own 2 P 9, .own 2 S 9, .own 6 W 61, .nown 1 (Z) [] [] 26 56]⟩) := by kernel_rfl


theorem law_x30 (l : List Int) (l_t : Bool) (P S : List (List UInt8)) (W : List (Int × Int × Bool × List UInt8)) (t d a : Int) (Z : List (List (List UInt8 × List UInt8))) (zn m k : Nat) (r : List (List UInt8 × List UInt8)) (q : Nat) : ((lexT C_hsam (QT30.toList.take 3) (st_law_r30 l l_t P S W t d a Z zn m k r q)).bind fun s => T.ret (Fin.cut (regAt Tryz.f3 30) s)) =
.ret (.cut (regAt Tryz.f3 30) ⟨tmG 24 [(3, .c (.ptr 2 0 0)), (0, .c (.fn 6 [(2, 0, 0)])), (0, .c (.own 6 (zn))), (4, .c (.own 7 (q))), (17, .c (.slc 0 0 (m) false)), (0, .c (.int .i64 (Int.ofNat m))), (0, .c (.int .i64 (Int.ofNat k))), (62, .c (.own 6 (zn))), (0, .c (.own 7 (q))), (0, .c (.slc 8 0 1 true))], [.inp 0 l, .blk [.own 3 (List.length P), .own 4 (List.length S), .own 5 (List.length W), .int .i64 t, .int .i64 d, .int .i64 a] 50, .blk [.ptr 1 0 0] 23, .own 2 P 9, .own 2 S 9, .own 6 W 61, .nown 1 (Z) [] [] 26 56, .own 1 r 56, .blk [.own 7 (q)] 26]⟩) := by kernel_rfl



namespace F
/-- What was seen: the states of the first entries. -/
def okZ (P : List Txt) (Z : List (List Row)) : Prop := ∀ n, n < Z.length → Z.getD n [] = runT [] (P.take n)
def okTb (x : Txt) : Bool := spH x && key (spA x) && value (spB x) && decide (x.length ≤ 120)
theorem okTb_ok {x : Txt} (h : okTb x = true) : okT x := by
  unfold okTb at h
  simp only [Bool.and_eq_true, decide_eq_true_eq] at h
  exact ⟨h.1.1.1, h.1.1.2, h.1.2, h.2⟩
theorem txt_ok : ((List.range 4).all fun n => (List.range 40).all fun k => okTb ([107] ++ itoa (n : Int) ++ [32] ++ itoa (k : Int))) = true := by kernel_rfl
theorem txt_okT {n k : Nat} (hn : n < 4) (hk : k < 40) : okT ([107] ++ itoa (n : Int) ++ [32] ++ itoa (k : Int)) :=
  okTb_ok (List.all_eq_true.1 (List.all_eq_true.1 txt_ok n (List.mem_range.2 hn)) k (List.mem_range.2 hk))
theorem drp_eq (P S : List (List UInt8)) (W : List (Int × Int × Bool × List UInt8)) (t d a : Int) (k : Int) : drp (F.PS.mk P S W t d a) k = ⟨P, S, (drp (F.PS.mk P S W t d a) k).W, t, d, a⟩ := by unfold drp; split <;> rfl
theorem resd_eq (P S : List (List UInt8)) (W : List (Int × Int × Bool × List UInt8)) (t d a : Int) : resd (F.PS.mk P S W t d a) = ⟨P, S, sndW W (resA (F.PS.mk P S W t d a)), t, d, a⟩ := by
  unfold resd sndW
  show (if 64 < W.length + (resA (F.PS.mk P S W t d a)).length then _ else _) = _
  split <;> rfl
theorem subm_eq (P S : List (List UInt8)) (W : List (Int × Int × Bool × List UInt8)) (t d a : Int) (x : Txt) : subm (F.PS.mk P S W t d a) x = ⟨(subm (F.PS.mk P S W t d a) x).P, S, (subm (F.PS.mk P S W t d a) x).W, t, d, a⟩ := by unfold subm; split <;> rfl
theorem dlv_eq (P S : List (List UInt8)) (W : List (Int × Int × Bool × List UInt8)) (t d a : Int) (k : Int) : dlv (F.PS.mk P S W t d a) k = ⟨P, (dlv (F.PS.mk P S W t d a) k).S, (dlv (F.PS.mk P S W t d a) k).W, t, (dlv (F.PS.mk P S W t d a) k).d, (dlv (F.PS.mk P S W t d a) k).a⟩ := by
  unfold dlv
  split
  · rw [drp_eq]
    unfold dlvM
    split
    · rfl
    · split
      · rfl
      · split <;> rfl
  · rfl
theorem okZ_ext {s s' : PS} {Z : List (List Row)} (h : okZ s.P Z) (hE : Ext s s') (hl : Z.length ≤ s.a.toNat + 1) : okZ s'.P Z := fun n hn => by
  rw [h n hn]
  have e : ∀ (Q : List Txt), Q.take n = (Q.take s.a.toNat).take n := fun Q => by rw [List.take_take, Nat.min_eq_left (by omega)]
  rw [e s.P, e s'.P, hE.1]
end F
theorem QT19_at : regAt Tryz.f3 19 = .code (.region (idJ (regAt Tryz.f3 19)) QT19 true) :: (regAt Tryz.f3 19).tail := by kernel_rfl
theorem QT19_ok : (decide (9 ≤ QT19.size) && acyc QT19 && lastAll QT19 9 && QT19.toList.all fun o => o.guard.isNone) = true := by kernel_rfl
theorem QT30_at : regAt Tryz.f3 30 = .code (.region (idJ (regAt Tryz.f3 30)) QT30 false) :: (regAt Tryz.f3 30).tail := by kernel_rfl
noncomputable def OT96 : Oper := QT30.toList.getD 3 default
theorem QT30_split : QT30.toList = QT30.toList.take 3 ++ OT96 :: QT30.toList.drop 4 := by kernel_rfl
theorem QT30_free : (QT30.toList.all fun o => o.guard.isNone) = true := by kernel_rfl
theorem OT96_op : OT96.op = .call ⟨.builtin .append, #[.tmp 93, .tmp 95], #[36, 36]⟩ := by kernel_rfl
theorem OT96_dst : OT96.dst = some 96 := by kernel_rfl
theorem TZ : Tryz.prog.underlying 36 = some (.slice 26) := by kernel_rfl
theorem ZZ : (Tryz.prog.info? 26).map (fun i => (i.zero.map fun z => z.cells.size, i.size, i.bytes)) = some (some 1, 1, 24) := by kernel_rfl
def st_law_x30a (l : List Int) (l_t : Bool) (P S : List (List UInt8)) (W : List (Int × Int × Bool × List UInt8)) (t d a : Int) (Z : List (List (List UInt8 × List UInt8))) (zn m k : Nat) (r : List (List UInt8 × List UInt8)) (q : Nat) : St cod := ⟨tmG 24 [(3, .c (.ptr 2 0 0)), (0, .c (.fn 6 [(2, 0, 0)])), (0, .c (.own 6 (zn))), (4, .c (.own 7 (q))), (17, .c (.slc 0 0 (m) false)), (0, .c (.int .i64 (Int.ofNat m))), (0, .c (.int .i64 (Int.ofNat k))), (62, .c (.own 6 (zn))), (0, .c (.own 7 (q))), (0, .c (.slc 8 0 1 true))], [.inp 0 l, .blk [.own 3 (List.length P), .own 4 (List.length S), .own 5 (List.length W), .int .i64 t, .int .i64 d, .int .i64 a] 50, .blk [.ptr 1 0 0] 23, .own 2 P 9, .own 2 S 9, .own 6 W 61, .nown 1 (Z) [] [] 26 56, .own 1 r 56, .blk [.own 7 (q)] 26]⟩
theorem law_x30' (l : List Int) (l_t : Bool) (P S : List (List UInt8)) (W : List (Int × Int × Bool × List UInt8)) (t d a : Int) (Z : List (List (List UInt8 × List UInt8))) (zn m k : Nat) (r : List (List UInt8 × List UInt8)) (q : Nat) : lexT C_hsam (QT30.toList.take 3) (st_law_r30 l l_t P S W t d a Z zn m k r q) = .ret (st_law_x30a l l_t P S W t d a Z zn m k r q) := by kernel_rfl
def tk1 (Z : List (List F.Row)) (q : Nat) (s : St cod) : St cod := s.put (some 96) { v := .c (.own 6 (Z.length + 1)), H := (s.heap.set 6 (.nown 1 (Z ++ [[]]) [Z.length] [.own 7 q] 26 56)).map (HObj.mapC (Cell.killed [6])), kill := [6] }
def tk2 (Z : List (List F.Row)) (q : Nat) (s : St cod) : St cod := (tk1 Z q s).put (some 5) { v := .c (.own 6 (Z.length + 1)), H := (tk1 Z q s).heap }
theorem zlt_last {α : Type} (L : List α) (x : α) : L.length < (L ++ [x]).length := by simp
theorem zset_last {α : Type} (L : List α) (x y : α) : (L ++ [x]).set L.length y = L ++ [y] := by
  rw [List.set_append]
  simp
theorem law30 (l : List Int) (l_t : Bool) (P S : List (List UInt8)) (W : List (Int × Int × Bool × List UInt8)) (t d a : Int) (Z : List (List (List UInt8 × List UInt8))) (zn m k : Nat) (r : List (List UInt8 × List UInt8)) (q : Nat) (b0 : Base) (hb : b0.n = 1) (hN : Z.length + 1 ≤ 1000000)
    (nx : Sym.Runs Tryz.prog b0 (cutAt Tryz.f3 26) (st_law_26 l l_t P S W t d a (Z ++ [r]) (Z.length + 1) m k) (Sym.Ends Tryz.prog Tryz.f3 1 (.c (.bool true)) [])) : Sym.Runs Tryz.prog b0 (regAt Tryz.f3 30) (st_law_r30 l l_t P S W t d a Z zn m k r q) (Sym.Ends Tryz.prog Tryz.f3 1 (.c (.bool true)) []) := by
  refine Runs.mid (cfg := C_hsam) L_hsam_ok QT30_at QT30_split QT30_free (law_x30' l l_t P S W t d a Z zn m k r q) ?_
  refine ⟨tk1 Z q (st_law_x30a l l_t P S W t d a Z zn m k r q), ?_, ?_⟩
  · refine StepW.app (b := 8) (h := 6) (n := zn) (c := .own 7 q) (T := 36) (ty := 26) (tyr := 56) (t := 1) (LL := Z) (tb := 26) (B := 24) OT96_op rfl rfl TZ ZZ (by omega) rfl rfl rfl rfl rfl hN (by omega) ?_
    rw [OT96_dst]
    rfl
  · have e3 : lexT C_hsam (QT30.toList.drop 4) (tk1 Z q (st_law_x30a l l_t P S W t d a Z zn m k r q)) = .ret (tk2 Z q (st_law_x30a l l_t P S W t d a Z zn m k r q)) := by kernel_rfl
    rw [e3]
    refine Runs.closeW 6 (j := Z.length) (r := 7) (N := 1) hb (t := 1) (LL := Z ++ [[]]) (js := []) (c := .own 7 q) (cs := []) (ty := 26) (tyr := 56) (l := r) rfl (zlt_last Z []) List.not_mem_nil rfl (by omega) (by omega) rfl ?_
    have e4 : (((tk2 Z q (st_law_x30a l l_t P S W t d a Z zn m k r q)).closeW 6).fit [3, 4, 5, 28, 29, 30] 7) = st_law_26 l l_t P S W t d a ((Z ++ [[]]).set Z.length r) (Z.length + 1) m k := by kernel_rfl
    rw [zset_last] at e4
    refine Runs.weaken (st' := st_law_26 l l_t P S W t d a (Z ++ [r]) (Z.length + 1) m k) (fun a w hR => ?_) ?_
    · rw [← e4]
      exact fit_rel _ _ (by omega) hR
    · refine Runs.go (cfg := C_hsam) L_hsam_ok mixed cuts_law 400 hb (law_y26 l l_t P S W t d a (Z ++ [r]) (Z.length + 1) m k) ?_
      exact nx
theorem law32 (l : List Int) (l_t : Bool) (P S : List (List UInt8)) (W : List (Int × Int × Bool × List UInt8)) (t d a : Int) (Z : List (List F.Row)) (m k : Nat) (hk : k ≤ 1000) (b0 : Base) (hb : b0.n = 1) (hP : F.okTs P) (hZ : F.okZ P Z) (hzl : Z.length ≤ P.length + 1)
    (nx : Sym.Runs Tryz.prog b0 (cutAt Tryz.f3 7) (st_law_7 l l_t P S W t d a Z Z.length m (k + 1)) (Sym.Ends Tryz.prog Tryz.f3 1 (.c (.bool true)) [])) : ∀ (j n : Nat), n + j = Z.length → Sym.Runs Tryz.prog b0 (cutAt Tryz.f3 32) (st_law_32 l l_t P S W t d a Z Z.length m k n) (Sym.Ends Tryz.prog Tryz.f3 1 (.c (.bool true)) []) := by
  have hpl := hP.2
  intro j
  induction j with
  | zero =>
    intro n hn
    refine Runs.go (cfg := C_hsam) L_hsam_ok mixed cuts_law 400 hb (law_t32 l l_t P S W t d a Z Z.length m k n) ?_
    rw [T.wp_cond]
    exact ite_no (by simp only [decide_eq_true_eq, Int.ofNat_eq_natCast]; omega) ⟨by unfold i64ok; simp only [Int.ofNat_eq_natCast]; omega, nx⟩
  | succ j ih =>
    intro n hn
    have hnZ : n < Z.length := by omega
    have nx2 := ih (n + 1) (by omega)
    have hr := hZ n hnZ
    refine Runs.go (cfg := C_hsam) L_hsam_ok mixed cuts_law 400 hb (law_t32 l l_t P S W t d a Z Z.length m k n) ?_
    rw [T.wp_cond]
    refine ite_yes (decide_eq_true (by simp only [Int.ofNat_eq_natCast]; omega)) ?_
    refine Runs.openW 6 n (t := 1) (LL := Z) (js := []) (cs := []) (ty := 26) (tyr := 56) rfl hnZ List.not_mem_nil rfl ?_
    refine Runs.weaken (st' := st_law_r33b l l_t P S W t d a Z Z.length m k n n (Z.getD n [])) (fun a w hR => hR) ?_
    have eS : Z.set n (Z.getD n []) = Z := by
      rw [List.getD_eq_getElem?_getD, List.getElem?_eq_getElem hnZ]
      exact List.set_getElem_self hnZ
    have nx3 : Sym.Runs Tryz.prog b0 (cutAt Tryz.f3 32) (st_law_32 l l_t P S W t d a (Z.set n (Z.getD n [])) Z.length m k (n + 1)) (Sym.Ends Tryz.prog Tryz.f3 1 (.c (.bool true)) []) := by
      rw [eS]
      exact nx2
    obtain ⟨r, hre⟩ : ∃ r, r = Z.getD n [] := ⟨_, rfl⟩
    rw [← hre] at nx3 hr ⊢
    have eR : F.runT [] (List.take (Int.toNat (Int.ofNat n)) P) = r := hr.symm
    have hrl := (runT_ok (P.take n) [] (fun x hx => hP.1 x (List.mem_of_mem_take hx)) (by decide) (by rw [List.length_take, List.length_nil]; omega)).2
    rw [← hr, List.length_take, List.length_nil] at hrl
    have hq : F.eqR r r = true := decide_eq_true rfl
    refine Runs.go (cfg := C_hsam) L_hsam_ok mixed cuts_law_r33b 400 hb (law_tr33b l l_t P S W t d a Z Z.length m k n n r) ?_
    rw [eR]
    refine ⟨⟨(by simp only [Int.ofNat_eq_natCast]; omega), (by simp only [Int.ofNat_eq_natCast]; omega)⟩, ⟨by rw [Nat.zero_add]; rfl, hnZ⟩, rfl, ⟨(by simp only [Int.ofNat_eq_natCast]; omega), (by simp only [Int.ofNat_eq_natCast]; omega), hP⟩, ⟨⟨rfl, rfl⟩, ⟨rfl, rfl⟩, by omega⟩, ?_⟩
    rw [T.wp_cond, hq]
    refine ite_no (by decide) ⟨by unfold i64ok; simp only [Int.ofNat_eq_natCast]; omega, ?_⟩
    refine Runs.closeW 6 (j := n) (r := 7) (N := 1) hb (t := 1) (LL := Z) (js := []) (c := .own 7 r.length) (cs := []) (ty := 26) (tyr := 56) (l := r) rfl hnZ List.not_mem_nil rfl (by omega) (by omega) rfl ?_
    exact Runs.turn [0, 1, 2, 3, 4, 5, 6] 98 hb (by decide) rfl rfl rfl nx3
theorem law26 (l : List Int) (l_t : Bool) (P S : List (List UInt8)) (W : List (Int × Int × Bool × List UInt8)) (t d a : Int) (m k : Nat) (b0 : Base) (hb : b0.n = 1) (hP : F.okTs P) (ha0 : 0 ≤ a) (ha1 : a ≤ P.length)
    (fin : ∀ Z, Z.length = a.toNat + 1 → F.okZ P Z → Sym.Runs Tryz.prog b0 (regAt Tryz.f3 31) (st_law_r31 l l_t P S W t d a Z Z.length m k) (Sym.Ends Tryz.prog Tryz.f3 1 (.c (.bool true)) [])) : ∀ (j : Nat) (Z : List (List F.Row)), Z.length + j = a.toNat + 1 → F.okZ P Z → Sym.Runs Tryz.prog b0 (cutAt Tryz.f3 26) (st_law_26 l l_t P S W t d a Z Z.length m k) (Sym.Ends Tryz.prog Tryz.f3 1 (.c (.bool true)) []) := by
  have hpl := hP.2
  intro j
  induction j with
  | zero =>
    intro Z hj hZ
    have A := fin Z hj hZ
    refine Runs.go (cfg := C_hsam) L_hsam_ok mixed cuts_law 400 hb (law_t26 l l_t P S W t d a Z Z.length m k) ?_
    refine ⟨rfl, ?_⟩
    rw [T.wp_cond]
    exact ite_no (by simp only [decide_eq_true_eq, Int.ofNat_eq_natCast]; omega) A
  | succ j ih =>
    intro Z hj hZ
    have nx := ih (Z ++ [F.runT [] (P.take Z.length)]) (by rw [List.length_append, List.length_singleton]; omega) (fun n hn => by
      rw [List.length_append, List.length_singleton] at hn
      rw [List.getD_eq_getElem?_getD]
      rcases Nat.lt_or_ge n Z.length with c | c
      · rw [List.getElem?_append_left c, ← List.getD_eq_getElem?_getD]
        exact hZ n c
      · have e : n = Z.length := by omega
        subst e
        rw [List.getElem?_append_right (Nat.le_refl _)]
        simp)
    rw [List.length_append, List.length_singleton] at nx
    refine Runs.go (cfg := C_hsam) L_hsam_ok mixed cuts_law 400 hb (law_t26 l l_t P S W t d a Z Z.length m k) ?_
    refine ⟨rfl, ?_⟩
    rw [T.wp_cond]
    refine ite_yes (decide_eq_true (by simp only [Int.ofNat_eq_natCast]; omega)) ⟨rfl, ⟨(by simp only [Int.ofNat_eq_natCast]; omega), (by simp only [Int.ofNat_eq_natCast]; omega), hP⟩, ?_⟩
    exact law30 l l_t P S W t d a Z Z.length m k (F.runT [] (P.take Z.length)) _ b0 hb (by omega) nx
theorem law19 (l : List Int) (l_t : Bool) (P S : List (List UInt8)) (W : List (Int × Int × Bool × List UInt8)) (t d a : Int) (Z : List (List (List UInt8 × List UInt8))) (zn m k : Nat) (c : Int) (hc : 0 ≤ c) (hk : k < 40) (b0 : Base) (hb : b0.n = 1) (hp : P.length ≤ 64) (hw : W.length ≤ 64)
    (nx : ∀ x, F.okT x → Sym.Runs Tryz.prog b0 (cutAt Tryz.f3 26) (st_law_26 l l_t (F.subm (F.PS.mk P S W t d a) x).P S (F.subm (F.PS.mk P S W t d a) x).W t d a Z zn m k) (Sym.Ends Tryz.prog Tryz.f3 1 (.c (.bool true)) [])) : Sym.Runs Tryz.prog b0 (regAt Tryz.f3 19) (st_law_r19 l l_t P S W t d a Z zn m k c) (Sym.Ends Tryz.prog Tryz.f3 1 (.c (.bool true)) []) := by
  have ht : Int.tmod c 4 = c % 4 := Int.tmod_eq_emod_of_nonneg hc
  obtain ⟨q, hq, hq4⟩ : ∃ q : Nat, c % 4 = (q : Int) ∧ q < 4 := ⟨(c % 4).toNat, by omega, by omega⟩
  have A := nx _ (F.txt_okT hq4 hk)
  have x1 := (F.txt_okT hq4 hk).2.2.2
  have l1 : (F.itoa (q : Int)).length + (F.itoa (k : Int)).length + 2 ≤ 120 := by
    simp only [List.length_append, List.length_singleton] at x1
    omega
  refine Runs.preF (cfg := C_hsam) L_hsam_ok mixed cuts_law_r19 400 hb QT19_at 9 _ QT19_ok (law_x19 l l_t P S W t d a Z zn m k c) ?_
  rw [ht, hq]
  have l2 : ([107] ++ F.itoa (q : Int)).length = (F.itoa (q : Int)).length + 1 := by rw [List.length_append]; exact Nat.add_comm ..
  have l3 : ([107] ++ F.itoa (q : Int) ++ [32]).length = (F.itoa (q : Int)).length + 2 := by rw [List.length_append, l2]; rfl
  have ek : Int.ofNat k = (k : Int) := rfl
  rw [ek]
  refine ⟨?_, ⟨by omega, by omega⟩, by omega, by rw [l2]; omega, ⟨by omega, by omega⟩, by rw [l3]; omega, rfl, ⟨hp, hw, by omega⟩, A⟩
  all_goals decide
theorem law14 (l : List Int) (l_t : Bool) (P S : List (List UInt8)) (W : List (Int × Int × Bool × List UInt8)) (t d a : Int) (Z : List (List (List UInt8 × List UInt8))) (zn m k : Nat) (c ix : Int) (hc : 0 ≤ c) (hk : k < 40) (b0 : Base) (hb : b0.n = 1) (hI : F.Inv F.okT (F.PS.mk P S W t d a)) (ht : Sym.i64ok (t + 1))
    (nx : ∀ s' : F.PS, F.Inv F.okT s' → F.Ext (F.PS.mk P S W t d a) s' → s'.t ≤ t + 1 → t ≤ s'.t → Sym.Runs Tryz.prog b0 (cutAt Tryz.f3 26) (st_law_26 l l_t s'.P s'.S s'.W s'.t s'.d s'.a Z zn m k) (Sym.Ends Tryz.prog Tryz.f3 1 (.c (.bool true)) [])) : Sym.Runs Tryz.prog b0 (regAt Tryz.f3 14) (st_law_r14 l l_t P S W t d a Z zn m k c ix) (Sym.Ends Tryz.prog Tryz.f3 1 (.c (.bool true)) []) := by
  have hpl : P.length ≤ 64 := hI.pl
  have hwl : W.length ≤ 64 := hI.wl
  have hsp : S.length ≤ P.length := hI.sp
  have hd0 : 0 ≤ d := hI.d0
  have hd1 : d ≤ S.length := hI.d1
  have A19 := law19 l l_t P S W t d a Z zn m k c hc hk b0 hb hpl hwl fun x hx => by
    obtain ⟨i1, i2⟩ := F.subm_inv hI hx
    rw [F.subm_eq] at i1 i2
    exact nx _ i1 i2 (by show t ≤ t + 1; omega) (Int.le_refl _)
  refine Runs.go (cfg := C_hsam) L_hsam_ok mixed cuts_law_r14 400 hb (law_tr14 l l_t P S W t d a Z zn m k c ix) ?_
  refine ⟨by decide, ?_⟩
  rw [T.wp_cond]
  by_cases c0 : Int.tmod c 10 = 0
  · exact ite_yes (decide_eq_true c0) A19
  refine ite_no (fun h => c0 (of_decide_eq_true h)) ?_
  rw [T.wp_cond]
  by_cases c1 : Int.tmod c 10 = 1
  · exact ite_yes (decide_eq_true c1) A19
  refine ite_no (fun h => c1 (of_decide_eq_true h)) ?_
  rw [T.wp_cond]
  by_cases c2 : Int.tmod c 10 = 2
  · exact ite_yes (decide_eq_true c2) A19
  refine ite_no (fun h => c2 (of_decide_eq_true h)) ?_
  rw [T.wp_cond]
  by_cases c3 : Int.tmod c 10 = 3
  · obtain ⟨i1, i2⟩ := F.drp_inv hI ix
    rw [F.drp_eq] at i1 i2
    exact ite_yes (decide_eq_true c3) ⟨rfl, hwl, nx _ i1 i2 (by show t ≤ t + 1; omega) (Int.le_refl _)⟩
  refine ite_no (fun h => c3 (of_decide_eq_true h)) ?_
  rw [T.wp_cond]
  by_cases c4 : Int.tmod c 10 = 4
  · obtain ⟨i1, i2⟩ := F.resd_inv hI
    rw [F.resd_eq] at i1 i2
    exact ite_yes (decide_eq_true c4) ⟨rfl, ⟨hwl, hpl, hd0, (by simp only [Int.ofNat_eq_natCast]; omega)⟩, nx _ i1 i2 (by show t ≤ t + 1; omega) (Int.le_refl _)⟩
  refine ite_no (fun h => c4 (of_decide_eq_true h)) ?_
  rw [T.wp_cond]
  by_cases c5 : Int.tmod c 10 = 5
  · obtain ⟨i1, i2⟩ := F.tko_inv hI
    refine ite_yes (decide_eq_true c5) ⟨fun h => ?_, fun h => ?_⟩
    · have h := of_decide_eq_true h
      have e : F.tko (F.PS.mk P S W t d a) = (F.PS.mk P S W t d a) := if_pos h
      rw [e] at i1 i2
      exact ⟨rfl, h, nx _ i1 i2 (by show t ≤ t + 1; omega) (Int.le_refl _)⟩
    · have h := of_decide_eq_false h
      have e : F.tko (F.PS.mk P S W t d a) = ⟨S, [], W, t + 1, 0, a⟩ := if_neg h
      rw [e] at i1 i2
      have B := nx _ i1 i2 (Int.le_refl _) (by show t ≤ t + 1; omega)
      refine ⟨rfl, ⟨h, ht⟩, ?_⟩
      refine Runs.made 1 1 2 9 (cs := [.own 4 (List.length S), .nil, .own 5 (List.length W), .int .i64 (t + 1), .int .i64 0, .int .i64 a]) (t := 50) rfl rfl rfl ?_
      exact Runs.turn [0, 1, 2, 4, 7, 5, 6] 29 hb (by decide) rfl rfl rfl B
  refine ite_no (fun h => c5 (of_decide_eq_true h)) ?_
  obtain ⟨i1, i2⟩ := F.dlv_inv hI ix
  rw [F.dlv_eq] at i1 i2
  exact ⟨rfl, ⟨hwl, hpl, by omega⟩, nx _ i1 i2 (by show t ≤ t + 1; omega) (Int.le_refl _)⟩
theorem law7 (l : List Int) (l_t : Bool) (m : Nat) (hm : m ≤ 40) (hml : m ≤ l.length) (b0 : Base) (hb : b0.n = 1) : ∀ (j k : Nat) (s : F.PS) (Z : List (List F.Row)), k + j = m → F.Inv F.okT s → s.t ≤ 1 + k ∧ 1 ≤ s.t → Z.length ≤ s.a.toNat + 1 → F.okZ s.P Z →
    Sym.Runs Tryz.prog b0 (cutAt Tryz.f3 7) (st_law_7 l l_t s.P s.S s.W s.t s.d s.a Z Z.length m k) (Sym.Ends Tryz.prog Tryz.f3 1 (.c (.bool true)) []) := by
  intro j
  induction j with
  | zero =>
    intro k s Z hk hI ht hl hZ
    refine Runs.go (cfg := C_hsam) L_hsam_ok mixed cuts_law 400 hb (law_t7 l l_t s.P s.S s.W s.t s.d s.a Z Z.length m k) ?_
    rw [T.wp_cond]
    exact ite_no (by simp only [decide_eq_true_eq, Int.ofNat_eq_natCast]; omega) (by first | trivial | exact ⟨rfl, rfl⟩)
  | succ j ih =>
    intro k s Z hk hI ht hl hZ
    have hwl : s.W.length ≤ 64 := hI.wl
    have go14 : ∀ c ix, 0 ≤ c → Sym.Runs Tryz.prog b0 (regAt Tryz.f3 14) (st_law_r14 l l_t s.P s.S s.W s.t s.d s.a Z Z.length m k c ix) (Sym.Ends Tryz.prog Tryz.f3 1 (.c (.bool true)) []) := fun c ix hc => by
      refine law14 l l_t s.P s.S s.W s.t s.d s.a Z Z.length m k c ix hc (by omega) b0 hb hI (by unfold i64ok; omega) fun s' hI' hE h1 h2 => ?_
      have hP' : F.okTs s'.P := ⟨hI'.good, hI'.pl⟩
      have ha0 := hI'.a0
      have ha1 := hI'.a1
      have hEa : s.a ≤ s'.a := hE.2
      have hs0 := hI.a0
      refine law26 l l_t s'.P s'.S s'.W s'.t s'.d s'.a m k b0 hb hP' ha0 ha1 (fun Z' hZl hZ' => ?_) (s'.a.toNat + 1 - Z.length) Z (by omega) (F.okZ_ext hZ hE hl)
      have nx := ih (k + 1) s' Z' (by omega) hI' (by omega) (by omega) hZ'
      refine Runs.go (cfg := C_hsam) L_hsam_ok mixed cuts_law_r31 400 hb (law_tr31 l l_t s'.P s'.S s'.W s'.t s'.d s'.a Z' Z'.length m k) ?_
      exact law32 l l_t s'.P s'.S s'.W s'.t s'.d s'.a Z' m k (by omega) b0 hb hP' hZ' (by omega) nx Z'.length 0 (by omega)
    have go12 : ∀ c ix wn, 0 ≤ c → Sym.Runs Tryz.prog b0 (regAt Tryz.f3 12) (st_law_r12 l l_t s.P s.S s.W s.t s.d s.a Z Z.length m k c ix wn) (Sym.Ends Tryz.prog Tryz.f3 1 (.c (.bool true)) []) := fun c ix wn hc => by
      refine Runs.go (cfg := C_hsam) L_hsam_ok mixed cuts_law_r12 400 hb (law_tr12 l l_t s.P s.S s.W s.t s.d s.a Z Z.length m k c ix wn) ?_
      rw [T.wp_cond]
      by_cases c0 : 0 < wn
      · exact ite_yes (decide_eq_true c0) ⟨by omega, go14 c _ hc⟩
      · exact ite_no (fun h => c0 (of_decide_eq_true h)) (go14 c _ hc)
    refine Runs.go (cfg := C_hsam) L_hsam_ok mixed cuts_law 400 hb (law_t7 l l_t s.P s.S s.W s.t s.d s.a Z Z.length m k) ?_
    rw [T.wp_cond]
    generalize List.getD l (0 + Int.toNat (Int.ofNat k)) (cod 0).d = v
    have hv : 0 ≤ v % 80 ∧ v % 80 < 80 := ⟨Int.emod_nonneg _ (by decide), Int.emod_lt_of_pos _ (by decide)⟩
    have hd : Int.tdiv (v % 80) 10 = v % 80 / 10 := Int.tdiv_eq_ediv_of_nonneg hv.1
    refine ite_yes (decide_eq_true (by simp only [Int.ofNat_eq_natCast]; omega)) ⟨⟨(by simp only [Int.ofNat_eq_natCast]; omega), (by simp only [Int.ofNat_eq_natCast]; omega)⟩, (by simp only [Int.ofNat_eq_natCast]; omega), by decide, by rw [hd]; unfold i64ok; omega, fun h => ?_, fun h => ?_⟩
    · have h := of_decide_eq_true h
      exact ⟨rfl, List.eq_nil_of_length_eq_zero h, go12 _ _ _ hv.1⟩
    · have h := of_decide_eq_false h
      exact ⟨rfl, ⟨by omega, hwl⟩, go12 _ _ _ hv.1⟩
theorem law_run (l : List Int) (l_t : Bool) (b0 : Base) (hb : b0.n = 1)  : Sym.Runs Tryz.prog b0 [.code (codeOf Tryz.f3)] ⟨argsS Tryz.f3 [.c (.slc 0 0 (List.length l) l_t)], ([.inp 0 l] : Heap cod)⟩ (Sym.Ends Tryz.prog Tryz.f3 1 (.c (.bool true)) []) := by
  refine Runs.go (cfg := C_hsam) L_hsam_ok mixed cuts_law 400 hb (law_t0 l l_t) ?_
  refine ⟨trivial, ?_⟩
  refine Runs.made 1 0 2 9 (cs := [.nil, .nil, .nil, .int .i64 1, .int .i64 0, .int .i64 0]) (t := 50) rfl rfl rfl ?_
  refine Runs.made 1 1 2 9 (cs := [.own 3 0, .nil, .nil, .int .i64 1, .int .i64 0, .int .i64 0]) (t := 50) rfl rfl rfl ?_
  refine Runs.made 1 2 6 61 (cs := [.own 3 0, .own 4 0, .nil, .int .i64 1, .int .i64 0, .int .i64 0]) (t := 50) rfl rfl rfl ?_
  refine Runs.madeW 5 1 26 56 rfl rfl ?_
  refine Runs.weaken (st' := st_law_r6b l l_t) (fun a w hR => hR) ?_
  refine Runs.go (cfg := C_hsam) L_hsam_ok mixed cuts_law_r6b 400 hb (law_tr6b l l_t) ?_
  have A := law7 l l_t (min (l.length : Int) 40).toNat (by omega) (by omega) b0 hb (min (l.length : Int) 40).toNat 0 F.ps0 [] (by omega) F.inv0 ⟨by decide, by decide⟩ (by decide) (fun n hn => by cases hn)
  exact ⟨⟨(by simp only [Int.ofNat_eq_natCast]; omega), (by simp only [Int.ofNat_eq_natCast]; omega)⟩, A⟩



noncomputable def s_law : Summ cod := fun args H => match args, H with
  | [.c (.slc 0 l_i l_n l_t)], [o0] => (match o0.asInp 0 with | some l => .need ((l_i = 0 ∧ l_n = List.length l)) (.ret (.c (.bool true), [])) | none => .fail)
  | _, _ => .fail


theorem law_sound : Sound Tryz.prog cod 3 s_law := sound_runs (cfg := C_hsam) L_hsam_ok mixed Tryz.func3 rfl rfl _ fun args H r news hg b0 hb => by
  unfold s_law at hg
  split at hg
  · skip
    split at hg
    · rename_i l hx0
      cases asInp_spec hx0
      simp only [T.gives, T.wp, Prod.mk.injEq] at hg
      obtain ⟨⟨rfl, rfl⟩, rfl, rfl⟩ := hg
      exact law_run _ _ b0 hb 
    · exact hg.elim
  · exact hg.elim

noncomputable def L_law : Sums cod := (3, .p s_law) :: L_hsam
noncomputable def C_law : Cfg cod := mkC L_law

theorem L_law_ok : Snd Tryz.prog cod L_law := .cons law_sound L_hsam_ok


end
end Go.Proofs.YtiolfkmkbccndaaGreatDoor
