/- Part of a claim: lemmas on the way to its theorem; each states its own conditions. -/
import Derived.Test.YtoflfgcdagoobaaDoorBd36
namespace Go.Proofs.YtoflfgcdagoobaaDoor
open Sym Go.RowKit
noncomputable section
set_option maxRecDepth 100000
set_option maxHeartbeats 4000000



noncomputable def s_checkN : Summ cod := autoS C_fu Tryd.f12 400


theorem checkN_sound : Sound Tryd.prog cod 12 s_checkN := auto_sound (cfg := C_fu) L_fu_ok mixed Tryd.func12 rfl rfl 400

noncomputable def L_checkN : Sums cod := (12, .p s_checkN) :: L_fu
noncomputable def C_checkN : Cfg cod := mkC L_checkN

theorem L_checkN_ok : Snd Tryd.prog cod L_checkN := .cons checkN_sound L_fu_ok



noncomputable def s_checkB : Summ cod := s_or s_checkN s_check


theorem checkB_sound : Sound Tryd.prog cod 12 s_checkB := .or checkN_sound check_sound

noncomputable def L_checkB : Sums cod := (12, .p s_checkB) :: L_checkN
noncomputable def C_checkB : Cfg cod := mkC L_checkB

theorem L_checkB_ok : Snd Tryd.prog cod L_checkB := .cons checkB_sound L_checkN_ok



noncomputable def s_cloneN : Summ cod := autoS C_checkB Tryd.f33 400


theorem cloneN_sound : Sound Tryd.prog cod 33 s_cloneN := auto_sound (cfg := C_checkB) L_checkB_ok mixed Tryd.func33 rfl rfl 400

noncomputable def L_cloneN : Sums cod := (33, .p s_cloneN) :: L_checkB
noncomputable def C_cloneN : Cfg cod := mkC L_cloneN

theorem L_cloneN_ok : Snd Tryd.prog cod L_cloneN := .cons cloneN_sound L_checkB_ok



noncomputable def s_cloneC : Summ cod := s_or s_cloneN s_cloneB


theorem cloneC_sound : Sound Tryd.prog cod 33 s_cloneC := .or cloneN_sound cloneB_sound

noncomputable def L_cloneC : Sums cod := (33, .p s_cloneC) :: L_cloneN
noncomputable def C_cloneC : Cfg cod := mkC L_cloneC

theorem L_cloneC_ok : Snd Tryd.prog cod L_cloneC := .cons cloneC_sound L_cloneN_ok



noncomputable def s_linesN : Summ cod := autoS C_cloneC Tryd.f35 400


theorem linesN_sound : Sound Tryd.prog cod 35 s_linesN := auto_sound (cfg := C_cloneC) L_cloneC_ok mixed Tryd.func35 rfl rfl 400

noncomputable def L_linesN : Sums cod := (35, .p s_linesN) :: L_cloneC
noncomputable def C_linesN : Cfg cod := mkC L_linesN

theorem L_linesN_ok : Snd Tryd.prog cod L_linesN := .cons linesN_sound L_cloneC_ok



noncomputable def s_linesB : Summ cod := s_or s_linesN s_lines


theorem linesB_sound : Sound Tryd.prog cod 35 s_linesB := .or linesN_sound lines_sound

noncomputable def L_linesB : Sums cod := (35, .p s_linesB) :: L_linesN
noncomputable def C_linesB : Cfg cod := mkC L_linesB

theorem L_linesB_ok : Snd Tryd.prog cod L_linesB := .cons linesB_sound L_linesN_ok



noncomputable def s_digestN : Summ cod := autoS C_linesB Tryd.f10 400


theorem digestN_sound : Sound Tryd.prog cod 10 s_digestN := auto_sound (cfg := C_linesB) L_linesB_ok mixed Tryd.func10 rfl rfl 400

noncomputable def L_digestN : Sums cod := (10, .p s_digestN) :: L_linesB
noncomputable def C_digestN : Cfg cod := mkC L_digestN

theorem L_digestN_ok : Snd Tryd.prog cod L_digestN := .cons digestN_sound L_linesB_ok



noncomputable def s_digestB : Summ cod := s_or s_digestN s_digest


theorem digestB_sound : Sound Tryd.prog cod 10 s_digestB := .or digestN_sound digest_sound

noncomputable def L_digestB : Sums cod := (10, .p s_digestB) :: L_digestN
noncomputable def C_digestB : Cfg cod := mkC L_digestB

theorem L_digestB_ok : Snd Tryd.prog cod L_digestB := .cons digestB_sound L_digestN_ok



def cuts_setN : Cuts := []

theorem setN_t0  : symF C_digestB cuts_setN Tryd.f8.results.toList 0 400 [.code (codeOf Tryd.f8)] ⟨argsS Tryd.f8 [.c .nil, .c (.str [97]), .c (.str [120])], ([] : Heap cod)⟩ =
.need ((1 : Nat) ≤ 1000000000000000) (
.need ((1 : Nat) ≤ 1000000000000000) (
.need (True) (
.need ((SV.c (Cell.own 0 0) : SV) = SV.c (Cell.own 0 0)) (
.need (((F.srt [] : Bool) = true ∧ (0 : Nat) ≤ 100000)) (
.ret (.fin (.tup [.c (.own 0 1), .c (.int .i64 0)]) [.own 1 (F.wth [97] [120] false []) 50])))))) := by kernel_rfl



theorem setN_run  (b0 : Base) (hb : b0.n = 0)  : Sym.Runs Tryd.prog b0 [.code (codeOf Tryd.f8)] ⟨argsS Tryd.f8 [.c .nil, .c (.str [97]), .c (.str [120])], ([] : Heap cod)⟩ (Sym.Ends Tryd.prog Tryd.f8 0 (.tup [.c (.own 0 1), .c (.int .i64 0)]) [.own 1 [([97], [120])] 50]) := by
  refine Runs.go (cfg := C_digestB) L_digestB_ok mixed cuts_setN 400 hb setN_t0 ?_
  simp only [T.wp, T.wp_cond, Aft, Int.ofNat_eq_natCast, decide_eq_true_eq, and_true, true_and, Nat.zero_add, Bool.not_eq_true', decide_eq_false_iff_not]
  exact ⟨by decide, by decide, ⟨rfl, by decide⟩, rfl⟩



noncomputable def s_setN : Summ cod := fun args H => match args, H with
  | [.c .nil, .c (.str [97]), .c (.str [120])], [] => .ret (.tup [.c (.own 0 1), .c (.int .i64 0)], [.own 1 [([97], [120])] 50])
  | _, _ => .fail


theorem setN_sound : Sound Tryd.prog cod 8 s_setN := sound_runs (cfg := C_digestB) L_digestB_ok mixed Tryd.func8 rfl rfl _ fun args H r news hg b0 hb => by
  unfold s_setN at hg
  split at hg
  · skip
    cases hg
    exact setN_run  b0 hb 
  · exact hg.elim

noncomputable def L_setN : Sums cod := (8, .p s_setN) :: L_digestB
noncomputable def C_setN : Cfg cod := mkC L_setN

theorem L_setN_ok : Snd Tryd.prog cod L_setN := .cons setN_sound L_digestB_ok



noncomputable def s_setB2 : Summ cod := s_or s_setN s_set


theorem setB2_sound : Sound Tryd.prog cod 8 s_setB2 := .or setN_sound set_sound

noncomputable def L_setB2 : Sums cod := (8, .p s_setB2) :: L_setN
noncomputable def C_setB2 : Cfg cod := mkC L_setB2

theorem L_setB2_ok : Snd Tryd.prog cod L_setB2 := .cons setB2_sound L_setN_ok



noncomputable def s_text : Summ cod := autoS C_setB2 Tryd.f28 400


theorem text_sound : Sound Tryd.prog cod 28 s_text := auto_sound (cfg := C_setB2) L_setB2_ok mixed Tryd.func28 rfl rfl 400

noncomputable def L_text : Sums cod := (28, .p s_text) :: L_setB2
noncomputable def C_text : Cfg cod := mkC L_text

theorem L_text_ok : Snd Tryd.prog cod L_text := .cons text_sound L_setB2_ok



def cuts_sfact : Cuts := []

theorem sfact_t0  : symF C_text cuts_sfact Tryd.f6.results.toList 0 400 [.code (codeOf Tryd.f6)] ⟨argsS Tryd.f6 [], ([] : Heap cod)⟩ =
.need (((∀ (n : Int), (cod 3).ok [Cell.int IntKind.u8 n] = true) ∧ (0 : Nat) ≤ 9223372036854775807)) (
.need (((0 : Int) ≤ 14695981039346656037 ∧ (14695981039346656037 : Int) < 18446744073709551616)) (
.need ((16 + 1 : Nat) ≤ 9223372036854775807) (
.need ((17 + 0 : Nat) ≤ 9223372036854775807) (
.need (((0 : Int) ≤ 0 ∧ (0 : Int) < Int.ofNat 1)) (
.need ((0 + Int.toNat 0 : Nat) < 1) (
.ret (.fin (.c (.bool (decide   ([99, 98, 102, 50, 57, 99, 101, 52, 56, 52, 50, 50, 50, 51, 50, 53, 10] =     [99, 98, 102, 50, 57, 99, 101, 52, 56, 52, 50, 50, 50, 51, 50, 53, 10])))) []))))))) := by kernel_rfl



theorem sfact_run  (b0 : Base) (hb : b0.n = 0)  : Sym.Runs Tryd.prog b0 [.code (codeOf Tryd.f6)] ⟨argsS Tryd.f6 [], ([] : Heap cod)⟩ (Sym.Ends Tryd.prog Tryd.f6 0 (.c (.bool true)) []) := by
  refine Runs.go (cfg := C_text) L_text_ok mixed cuts_sfact 400 hb sfact_t0 ?_
  simp only [T.wp, T.wp_cond, Aft, Int.ofNat_eq_natCast, decide_eq_true_eq, and_true, true_and, Nat.zero_add, Bool.not_eq_true', decide_eq_false_iff_not]
  exact ⟨⟨fun _ => rfl, by decide⟩, by decide, by decide, by decide, by decide, by decide, by simp⟩



noncomputable def s_sfact : Summ cod := fun args H => match args, H with
  | [], [] => .ret (.c (.bool true), [])
  | _, _ => .fail


theorem sfact_sound : Sound Tryd.prog cod 6 s_sfact := sound_runs (cfg := C_text) L_text_ok mixed Tryd.func6 rfl rfl _ fun args H r news hg b0 hb => by
  unfold s_sfact at hg
  split at hg
  · skip
    cases hg
    exact sfact_run  b0 hb 
  · exact hg.elim

noncomputable def L_sfact : Sums cod := (6, .p s_sfact) :: L_text
noncomputable def C_sfact : Cfg cod := mkC L_sfact

theorem L_sfact_ok : Snd Tryd.prog cod L_sfact := .cons sfact_sound L_text_ok



def cuts_snlaw : Cuts := [(100019, [1, 0, 11, 12, 2, 9, 10, 13, 16, 7, 14, 19, 18, 8], 3), (100021, [1, 0, 11, 12, 2, 9, 10], 3)]
def cuts_snlaw_r19 : Cuts := [(100021, [1, 0, 11, 12, 2, 9, 10], 3)]
def cuts_snlaw_r21 : Cuts := [(100019, [1, 0, 11, 12, 2, 9, 10, 13, 16, 7, 14, 19, 18, 8], 3)]

theorem snlaw_t0 (l : List (List UInt8 × List UInt8)) (l_t : Bool) (key : List UInt8) (value : List UInt8) : symF C_sfact cuts_snlaw Tryd.f3.results.toList 1 400 [.code (codeOf Tryd.f3)] ⟨argsS Tryd.f3 [.c (.slc 0 0 (List.length l) l_t), .c (.str key), .c (.str value)], ([.inp 1 l] : Heap cod)⟩ =
.need (((0 = 0 ∧ List.length l = List.length l) ∧ F.short l)) (
.need (((0 = 0 ∧ List.length l = List.length l) ∧ (F.short l ∧ (List.length key ≤ 1000000000000000 ∧ List.length value ≤ 1000000000000000)))) (
.need (((0 = 0 ∧ List.length l = List.length l) ∧ F.short l)) (
.need (((0 = 0 ∧ List.length l = List.length l) ∧ F.short l)) (
.need (((0 = 0 ∧ List.length l = List.length l) ∧ F.short l)) (
 cond (!decide (F.chk l = 0)) (
 .need (((0 = 0 ∧ List.length l = List.length l) ∧ F.short l)) (
 cond (decide (F.chk l = F.chk l)) (
  cond (decide (F.getE l key = F.chk l)) (
   cond (decide (F.setE l key value = F.chk l)) (
    cond (decide (F.cutE l key = F.chk l)) (
     cond (decide (F.chk l = F.chk l)) (
      cond (decide (F.getV l key = [])) (
       cond (decide (F.digV l = 0)) (
        .need (i64ok (Int.ofNat (List.length (F.setR l key value)) + Int.ofNat (List.length (F.cutR l key)))) (
        .ret (.fin (.c (.bool (decide (Int.ofNat (List.length (F.setR l key value)) + Int.ofNat (List.length (F.cutR l key)) = 0)))) []))) (
        .ret (.fin (.c (.bool false)) []))) (
       .ret (.fin (.c (.bool false)) []))) (
      .ret (.fin (.c (.bool false)) []))) (
     .ret (.fin (.c (.bool false)) []))) (
    .ret (.fin (.c (.bool false)) []))) (
   .ret (.fin (.c (.bool false)) []))) (
  .ret (.fin (.c (.bool false)) [])))) (
 .need (((0 = 0 ∧ List.length l = List.length l) ∧ List.length l ≤ 1000000)) (
 cond (!F.has l key) (
  .need (List.length key ≤ 1000000000000000) (
  cond (!F.key key) (
   .ret (.cut (regAt Tryd.f3 19) ⟨tmG 167 [(0, .c (.slc 0 0 (List.length l) l_t)), (0, .c (.str key)), (0, .c (.str value)), (4, .c (.str (F.getV l key))), (0, .c (.int .i64 (F.getE l key))), (0, .c (.own 1 (List.length (F.setR l key value)))), (0, .c (.int .i64 (F.setE l key value))), (0, .c (.own 2 (List.length (F.cutR l key)))), (0, .c (.int .i64 (F.cutE l key))), (0, .c (.int .u64 (F.digV l))), (0, .c (.int .i64 (F.chk l))), (1, .c (.str (F.val l key))), (1, .c (.int .i64 8)), (0, .c (.int .i64 3))], [.inp 1 l, .own 1 (F.setR l key value) 50, .own 1 (F.cutR l key) 50]⟩)) (
   .need (List.length value ≤ 1000000000000000) (
   cond (!F.value value) (
    .ret (.cut (regAt Tryd.f3 19) ⟨tmG 167 [(0, .c (.slc 0 0 (List.length l) l_t)), (0, .c (.str key)), (0, .c (.str value)), (4, .c (.str (F.getV l key))), (0, .c (.int .i64 (F.getE l key))), (0, .c (.own 1 (List.length (F.setR l key value)))), (0, .c (.int .i64 (F.setE l key value))), (0, .c (.own 2 (List.length (F.cutR l key)))), (0, .c (.int .i64 (F.cutE l key))), (0, .c (.int .u64 (F.digV l))), (0, .c (.int .i64 (F.chk l))), (1, .c (.str (F.val l key))), (1, .c (.int .i64 8)), (0, .c (.int .i64 3))], [.inp 1 l, .own 1 (F.setR l key value) 50, .own 1 (F.cutR l key) 50]⟩)) (
    cond (!F.has l key) (
     cond (decide (Int.ofNat (List.length l) = 64)) (
      .ret (.cut (regAt Tryd.f3 19) ⟨tmG 167 [(0, .c (.slc 0 0 (List.length l) l_t)), (0, .c (.str key)), (0, .c (.str value)), (4, .c (.str (F.getV l key))), (0, .c (.int .i64 (F.getE l key))), (0, .c (.own 1 (List.length (F.setR l key value)))), (0, .c (.int .i64 (F.setE l key value))), (0, .c (.own 2 (List.length (F.cutR l key)))), (0, .c (.int .i64 (F.cutE l key))), (0, .c (.int .u64 (F.digV l))), (0, .c (.int .i64 (F.chk l))), (1, .c (.str (F.val l key))), (1, .c (.int .i64 8)), (0, .c (.int .i64 9))], [.inp 1 l, .own 1 (F.setR l key value) 50, .own 1 (F.cutR l key) 50]⟩)) (
      .ret (.cut (regAt Tryd.f3 19) ⟨tmG 167 [(0, .c (.slc 0 0 (List.length l) l_t)), (0, .c (.str key)), (0, .c (.str value)), (4, .c (.str (F.getV l key))), (0, .c (.int .i64 (F.getE l key))), (0, .c (.own 1 (List.length (F.setR l key value)))), (0, .c (.int .i64 (F.setE l key value))), (0, .c (.own 2 (List.length (F.cutR l key)))), (0, .c (.int .i64 (F.cutE l key))), (0, .c (.int .u64 (F.digV l))), (0, .c (.int .i64 (F.chk l))), (1, .c (.str (F.val l key))), (1, .c (.int .i64 8)), (0, .c (.int .i64 0))], [.inp 1 l, .own 1 (F.setR l key value) 50, .own 1 (F.cutR l key) 50]⟩))) (
     .ret (.cut (regAt Tryd.f3 19) ⟨tmG 167 [(0, .c (.slc 0 0 (List.length l) l_t)), (0, .c (.str key)), (0, .c (.str value)), (4, .c (.str (F.getV l key))), (0, .c (.int .i64 (F.getE l key))), (0, .c (.own 1 (List.length (F.setR l key value)))), (0, .c (.int .i64 (F.setE l key value))), (0, .c (.own 2 (List.length (F.cutR l key)))), (0, .c (.int .i64 (F.cutE l key))), (0, .c (.int .u64 (F.digV l))), (0, .c (.int .i64 (F.chk l))), (1, .c (.str (F.val l key))), (1, .c (.int .i64 8)), (0, .c (.int .i64 0))], [.inp 1 l, .own 1 (F.setR l key value) 50, .own 1 (F.cutR l key) 50]⟩))))))) (
  .need (List.length key ≤ 1000000000000000) (
  cond (!F.key key) (
   .ret (.cut (regAt Tryd.f3 19) ⟨tmG 167 [(0, .c (.slc 0 0 (List.length l) l_t)), (0, .c (.str key)), (0, .c (.str value)), (4, .c (.str (F.getV l key))), (0, .c (.int .i64 (F.getE l key))), (0, .c (.own 1 (List.length (F.setR l key value)))), (0, .c (.int .i64 (F.setE l key value))), (0, .c (.own 2 (List.length (F.cutR l key)))), (0, .c (.int .i64 (F.cutE l key))), (0, .c (.int .u64 (F.digV l))), (0, .c (.int .i64 (F.chk l))), (1, .c (.str (F.val l key))), (1, .c (.int .i64 0)), (0, .c (.int .i64 3))], [.inp 1 l, .own 1 (F.setR l key value) 50, .own 1 (F.cutR l key) 50]⟩)) (
   .need (List.length value ≤ 1000000000000000) (
   cond (!F.value value) (
    .ret (.cut (regAt Tryd.f3 19) ⟨tmG 167 [(0, .c (.slc 0 0 (List.length l) l_t)), (0, .c (.str key)), (0, .c (.str value)), (4, .c (.str (F.getV l key))), (0, .c (.int .i64 (F.getE l key))), (0, .c (.own 1 (List.length (F.setR l key value)))), (0, .c (.int .i64 (F.setE l key value))), (0, .c (.own 2 (List.length (F.cutR l key)))), (0, .c (.int .i64 (F.cutE l key))), (0, .c (.int .u64 (F.digV l))), (0, .c (.int .i64 (F.chk l))), (1, .c (.str (F.val l key))), (1, .c (.int .i64 0)), (0, .c (.int .i64 3))], [.inp 1 l, .own 1 (F.setR l key value) 50, .own 1 (F.cutR l key) 50]⟩)) (
    cond (!F.has l key) (
     cond (decide (Int.ofNat (List.length l) = 64)) (
      .ret (.cut (regAt Tryd.f3 19) ⟨tmG 167 [(0, .c (.slc 0 0 (List.length l) l_t)), (0, .c (.str key)), (0, .c (.str value)), (4, .c (.str (F.getV l key))), (0, .c (.int .i64 (F.getE l key))), (0, .c (.own 1 (List.length (F.setR l key value)))), (0, .c (.int .i64 (F.setE l key value))), (0, .c (.own 2 (List.length (F.cutR l key)))), (0, .c (.int .i64 (F.cutE l key))), (0, .c (.int .u64 (F.digV l))), (0, .c (.int .i64 (F.chk l))), (1, .c (.str (F.val l key))), (1, .c (.int .i64 0)), (0, .c (.int .i64 9))], [.inp 1 l, .own 1 (F.setR l key value) 50, .own 1 (F.cutR l key) 50]⟩)) (
      .ret (.cut (regAt Tryd.f3 19) ⟨tmG 167 [(0, .c (.slc 0 0 (List.length l) l_t)), (0, .c (.str key)), (0, .c (.str value)), (4, .c (.str (F.getV l key))), (0, .c (.int .i64 (F.getE l key))), (0, .c (.own 1 (List.length (F.setR l key value)))), (0, .c (.int .i64 (F.setE l key value))), (0, .c (.own 2 (List.length (F.cutR l key)))), (0, .c (.int .i64 (F.cutE l key))), (0, .c (.int .u64 (F.digV l))), (0, .c (.int .i64 (F.chk l))), (1, .c (.str (F.val l key))), (1, .c (.int .i64 0)), (0, .c (.int .i64 0))], [.inp 1 l, .own 1 (F.setR l key value) 50, .own 1 (F.cutR l key) 50]⟩))) (
     .ret (.cut (regAt Tryd.f3 19) ⟨tmG 167 [(0, .c (.slc 0 0 (List.length l) l_t)), (0, .c (.str key)), (0, .c (.str value)), (4, .c (.str (F.getV l key))), (0, .c (.int .i64 (F.getE l key))), (0, .c (.own 1 (List.length (F.setR l key value)))), (0, .c (.int .i64 (F.setE l key value))), (0, .c (.own 2 (List.length (F.cutR l key)))), (0, .c (.int .i64 (F.cutE l key))), (0, .c (.int .u64 (F.digV l))), (0, .c (.int .i64 (F.chk l))), (1, .c (.str (F.val l key))), (1, .c (.int .i64 0)), (0, .c (.int .i64 0))], [.inp 1 l, .own 1 (F.setR l key value) 50, .own 1 (F.cutR l key) 50]⟩)))))))))))))) := by kernel_rfl


noncomputable def st_snlaw_r19 (l : List (List UInt8 × List UInt8)) (l_t : Bool) (key : List UInt8) (value : List UInt8) (vs ws : List UInt8) (e f g h no st d : Int) (A B : List (List UInt8 × List UInt8)) (an bn : Nat) : St cod := ⟨tmG 167 [(0, .c (.slc 0 0 (List.length l) l_t)), (0, .c (.str key)), (0, .c (.str value)), (4, .c (.str vs)), (0, .c (.int .i64 e)), (0, .c (.own 1 an)), (0, .c (.int .i64 f)), (0, .c (.own 2 bn)), (0, .c (.int .i64 g)), (0, .c (.int .u64 d)), (0, .c (.int .i64 h)), (1, .c (.str ws)), (1, .c (.int .i64 no)), (0, .c (.int .i64 st))], ([.inp 1 l, .own 1 A 50, .own 1 B 50] : Heap cod)⟩


theorem snlaw_tr19 (l : List (List UInt8 × List UInt8)) (l_t : Bool) (key : List UInt8) (value : List UInt8) (vs ws : List UInt8) (e f g h no st d : Int) (A B : List (List UInt8 × List UInt8)) (an bn : Nat) : symF C_sfact cuts_snlaw_r19 Tryd.f3.results.toList 1 400 (regAt Tryd.f3 19) (st_snlaw_r19 l l_t key value vs ws e f g h no st d A B an bn) =
 cond (!decide (e = no)) (
 .ret (.fin (.c (.bool false)) [])) (
 cond (!decide (g = no)) (
  .ret (.fin (.c (.bool false)) [])) (
  cond (!decide (f = st)) (
   .ret (.fin (.c (.bool false)) [])) (
   cond (!decide (h = 0)) (
    .ret (.fin (.c (.bool false)) [])) (
    cond (!decide (vs = ws)) (
     .ret (.fin (.c (.bool false)) [])) (
     .need (((0 = 0 ∧ List.length l = List.length l) ∧ (F.short l ∧ List.length l ≤ 1000000))) (
     cond (!decide (d = F.digest l)) (
      .ret (.fin (.c (.bool false)) [])) (
      .need (((0 = 0 ∧ List.length l = List.length l) ∧ F.short l)) (
      cond (!decide (F.chk l = 0)) (
       .ret (.fin (.c (.bool false)) [])) (
       .ret (.cut (regAt Tryd.f3 21) ⟨tmG 174 [(0, .c (.slc 0 0 (List.length l) l_t)), (0, .c (.str key)), (0, .c (.str value)), (6, .c (.own 1 (an))), (0, .c (.int .i64 f)), (0, .c (.own 2 (bn))), (0, .c (.int .i64 g))], [.inp 1 l, .own 1 A 50, .own 1 B 50]⟩)))))))))) := by kernel_rfl


noncomputable def st_snlaw_r21 (l : List (List UInt8 × List UInt8)) (l_t : Bool) (key : List UInt8) (value : List UInt8) (vs ws : List UInt8) (e f g h no st d : Int) (A B : List (List UInt8 × List UInt8)) (an bn : Nat) : St cod := ⟨tmG 174 [(0, .c (.slc 0 0 (List.length l) l_t)), (0, .c (.str key)), (0, .c (.str value)), (6, .c (.own 1 an)), (0, .c (.int .i64 f)), (0, .c (.own 2 bn)), (0, .c (.int .i64 g))], ([.inp 1 l, .own 1 A 50, .own 1 B 50] : Heap cod)⟩


theorem snlaw_tr21 (l : List (List UInt8 × List UInt8)) (l_t : Bool) (key : List UInt8) (value : List UInt8) (vs ws : List UInt8) (e f g h no st d : Int) (A B : List (List UInt8 × List UInt8)) (an bn : Nat) : symF C_sfact cuts_snlaw_r21 Tryd.f3.results.toList 1 400 (regAt Tryd.f3 21) (st_snlaw_r21 l l_t key value vs ws e f g h no st d A B an bn) =
 cond (!decide (f = 0)) (
 cond (decide (Int.ofNat an = 0)) (
  cond (!decide (g = 0)) (
   cond (decide (Int.ofNat bn = 0)) (
    .ret (.fin (.c (.bool true)) [])) (
    cond (decide (g = 0)) (
     .need (((0 = 0 ∧ List.length l = List.length l) ∧ List.length l ≤ 100000)) (
     .need (((0 = 0 ∧ bn = List.length B) ∧ ((0 = 0 ∧ List.length (F.wth key [] (!false) l) = List.length (F.wth key [] (!false) l)) ∧ List.length B ≤ 1000000))) (
     .ret (.fin (.c (.bool (F.eqR B (F.wth key [] (!false) l)))) [])))) (
     .ret (.fin (.c (.bool false)) [])))) (
   cond (decide (g = 0)) (
    .need (((0 = 0 ∧ List.length l = List.length l) ∧ List.length l ≤ 100000)) (
    .need (((0 = 0 ∧ bn = List.length B) ∧ ((0 = 0 ∧ List.length (F.wth key [] (!false) l) = List.length (F.wth key [] (!false) l)) ∧ List.length B ≤ 1000000))) (
    .ret (.fin (.c (.bool (F.eqR B (F.wth key [] (!false) l)))) [])))) (
    .ret (.fin (.c (.bool false)) [])))) (
  cond (decide (f = 0)) (
   .need (((0 = 0 ∧ List.length l = List.length l) ∧ List.length l ≤ 100000)) (
   .need (((0 = 0 ∧ an = List.length A) ∧ ((0 = 0 ∧ List.length (F.wth key value (!true) l) = List.length (F.wth key value (!true) l)) ∧ List.length A ≤ 1000000))) (
   cond (F.eqR A (F.wth key value (!true) l)) (
    cond (!decide (g = 0)) (
     cond (decide (Int.ofNat bn = 0)) (
      .ret (.fin (.c (.bool true)) [])) (
      cond (decide (g = 0)) (
       .need (((0 = 0 ∧ List.length l = List.length l) ∧ List.length l ≤ 100000)) (
       .need (((0 = 0 ∧ bn = List.length B) ∧ ((0 = 0 ∧ List.length (F.wth key [] (!false) l) = List.length (F.wth key [] (!false) l)) ∧ List.length B ≤ 1000000))) (
       .ret (.fin (.c (.bool (F.eqR B (F.wth key [] (!false) l)))) [])))) (
       .ret (.fin (.c (.bool false)) [])))) (
     cond (decide (g = 0)) (
      .need (((0 = 0 ∧ List.length l = List.length l) ∧ List.length l ≤ 100000)) (
      .need (((0 = 0 ∧ bn = List.length B) ∧ ((0 = 0 ∧ List.length (F.wth key [] (!false) l) = List.length (F.wth key [] (!false) l)) ∧ List.length B ≤ 1000000))) (
      .ret (.fin (.c (.bool (F.eqR B (F.wth key [] (!false) l)))) [])))) (
      .ret (.fin (.c (.bool false)) [])))) (
    .ret (.fin (.c (.bool false)) []))))) (
   .ret (.fin (.c (.bool false)) [])))) (
 cond (decide (f = 0)) (
  .need (((0 = 0 ∧ List.length l = List.length l) ∧ List.length l ≤ 100000)) (
  .need (((0 = 0 ∧ an = List.length A) ∧ ((0 = 0 ∧ List.length (F.wth key value (!true) l) = List.length (F.wth key value (!true) l)) ∧ List.length A ≤ 1000000))) (
  cond (F.eqR A (F.wth key value (!true) l)) (
   cond (!decide (g = 0)) (
    cond (decide (Int.ofNat bn = 0)) (
     .ret (.fin (.c (.bool true)) [])) (
     cond (decide (g = 0)) (
      .need (((0 = 0 ∧ List.length l = List.length l) ∧ List.length l ≤ 100000)) (
      .need (((0 = 0 ∧ bn = List.length B) ∧ ((0 = 0 ∧ List.length (F.wth key [] (!false) l) = List.length (F.wth key [] (!false) l)) ∧ List.length B ≤ 1000000))) (
      .ret (.fin (.c (.bool (F.eqR B (F.wth key [] (!false) l)))) [])))) (
      .ret (.fin (.c (.bool false)) [])))) (
    cond (decide (g = 0)) (
     .need (((0 = 0 ∧ List.length l = List.length l) ∧ List.length l ≤ 100000)) (
     .need (((0 = 0 ∧ bn = List.length B) ∧ ((0 = 0 ∧ List.length (F.wth key [] (!false) l) = List.length (F.wth key [] (!false) l)) ∧ List.length B ≤ 1000000))) (
     .ret (.fin (.c (.bool (F.eqR B (F.wth key [] (!false) l)))) [])))) (
     .ret (.fin (.c (.bool false)) [])))) (
   .ret (.fin (.c (.bool false)) []))))) (
  .ret (.fin (.c (.bool false)) []))) := by kernel_rfl



theorem snlaw_run (l : List (List UInt8 × List UInt8)) (l_t : Bool) (key : List UInt8) (value : List UInt8) (b0 : Base) (hb : b0.n = 1) (h0 : F.short l) (h1 : key.length ≤ 1000000000000000) (h2 : value.length ≤ 1000000000000000) : Sym.Runs Tryd.prog b0 [.code (codeOf Tryd.f3)] ⟨argsS Tryd.f3 [.c (.slc 0 0 (List.length l) l_t), .c (.str key), .c (.str value)], ([.inp 1 l] : Heap cod)⟩ (Sym.Ends Tryd.prog Tryd.f3 1 (.c (.bool true)) []) := by
  have eqs : ∀ x : List F.Row, F.eqR x x = true := fun x => decide_eq_true rfl
  have zs : F.setE l key value ≠ 0 → F.setR l key value = [] := fun h => if_neg h
  have zc : F.cutE l key ≠ 0 → F.cutR l key = [] := fun h => if_neg h
  have ys : F.setE l key value = 0 → F.setR l key value = F.wth key value false l := fun h => if_pos h
  have yc : F.cutE l key = 0 → F.cutR l key = F.wth key [] true l := fun h => if_pos h
  by_cases c : F.chk l = 0
  · obtain ⟨c1, c2, c3⟩ := chk0 c
    have hwl := wth_len (k := key) (v := value) c2
    have hwd : (F.wth key [] true l).length ≤ 1000000 := by
      cases d : F.has l key with
      | true => rw [wth_del c2 d, List.length_eraseIdx]; split <;> omega
      | false => rw [wth_none d]; omega
    have hws : (F.wth key value false l).length ≤ 1000000 := by rw [hwl]; split <;> omega
    have L21 : Sym.Runs Tryd.prog b0 (regAt Tryd.f3 21) (st_snlaw_r21 l l_t key value [] [] 0 (F.setE l key value) (F.cutE l key) 0 0 0 0 (F.setR l key value) (F.cutR l key) (F.setR l key value).length (F.cutR l key).length) (Sym.Ends Tryd.prog Tryd.f3 1 (.c (.bool true)) []) := by
      refine Runs.go (cfg := C_sfact) L_sfact_ok mixed cuts_snlaw_r21 400 hb (snlaw_tr21 l l_t key value [] [] 0 (F.setE l key value) (F.cutE l key) 0 0 0 0 (F.setR l key value) (F.cutR l key) (F.setR l key value).length (F.cutR l key).length) ?_
      simp only [T.wp, T.wp_cond, Aft, Int.ofNat_eq_natCast, decide_eq_true_eq, and_true, true_and, Nat.zero_add, Bool.not_eq_true', decide_eq_false_iff_not]
      by_cases q : F.setE l key value = 0 <;> by_cases r : F.cutE l key = 0
      · rw [ys q, yc r]
        simp [q, r, eqs]
        omega
      · rw [ys q, zc r]
        simp [q, r, eqs]
        omega
      · rw [zs q, yc r]
        simp [q, r, eqs]
        omega
      · rw [zs q, zc r]
        simp [q, r]
    have L19 : ∀ no st : Int, F.getE l key = no → F.cutE l key = no → F.setE l key value = st → Sym.Runs Tryd.prog b0 (regAt Tryd.f3 19) (st_snlaw_r19 l l_t key value (F.getV l key) (F.val l key) (F.getE l key) (F.setE l key value) (F.cutE l key) (F.chk l) no st (F.digV l) (F.setR l key value) (F.cutR l key) (F.setR l key value).length (F.cutR l key).length) (Sym.Ends Tryd.prog Tryd.f3 1 (.c (.bool true)) []) := by
      intro no st e1 e2 e3
      refine Runs.go (cfg := C_sfact) L_sfact_ok mixed cuts_snlaw_r19 400 hb (snlaw_tr19 l l_t key value (F.getV l key) (F.val l key) (F.getE l key) (F.setE l key value) (F.cutE l key) (F.chk l) no st (F.digV l) (F.setR l key value) (F.cutR l key) (F.setR l key value).length (F.cutR l key).length) ?_
      simp only [T.wp, T.wp_cond, Aft, Int.ofNat_eq_natCast, decide_eq_true_eq, and_true, true_and, Nat.zero_add, Bool.not_eq_true', decide_eq_false_iff_not]
      have v1 : F.getV l key = F.val l key := if_pos c
      have v2 : F.digV l = F.digest l := if_pos c
      exact ite_no (fun h => h e1) (ite_no (fun h => h e2) (ite_no (fun h => h e3) (ite_no (fun h => h c) (ite_no (fun h => h v1) ⟨⟨h0, by omega⟩, ite_no (fun h => h v2) ⟨h0, ite_no (fun h => h c) L21⟩⟩))))
    refine Runs.go (cfg := C_sfact) L_sfact_ok mixed cuts_snlaw 400 hb (snlaw_t0 l l_t key value) ?_
    simp only [T.wp, T.wp_cond, Aft, Int.ofNat_eq_natCast, decide_eq_true_eq, and_true, true_and, Nat.zero_add, Bool.not_eq_true', decide_eq_false_iff_not]
    refine ⟨h0, ⟨h0, h1, h2⟩, h0, h0, h0, ite_no (fun h => h c) ⟨by omega, ?_⟩⟩
    have g1 : F.getE l key = if F.has l key = true then 0 else 8 := if_pos c
    have g2 : F.cutE l key = if F.has l key = true then 0 else 8 := if_pos c
    have g3 : F.setE l key value = if F.key key = false ∨ F.value value = false then 3 else if 64 < (F.wth key value false l).length then 9 else 0 := if_pos c
    cases d : F.has l key with
    | false =>
      rw [d] at g1 g2
      rw [d, if_neg (by decide)] at hwl
      rw [hwl] at g3
      refine ite_yes rfl ⟨h1, ?_⟩
      cases k : F.key key with
      | false => rw [k] at g3; exact ite_yes rfl (L19 _ _ g1 g2 g3)
      | true =>
        refine ite_no (by decide) ⟨h2, ?_⟩
        cases v : F.value value with
        | false => rw [v] at g3; exact ite_yes rfl (L19 _ _ g1 g2 (by rw [g3]; simp))
        | true =>
          rw [k, v] at g3
          refine ite_no (by decide) (ite_yes rfl ?_)
          by_cases q : (l.length : Int) = 64
          · exact ite_yes q (L19 _ _ g1 g2 (by rw [g3, if_neg (by decide), if_pos (by omega)]))
          · exact ite_no q (L19 _ _ g1 g2 (by rw [g3, if_neg (by decide), if_neg (by omega)]))
    | true =>
      rw [d] at g1 g2
      rw [d, if_pos rfl] at hwl
      rw [hwl] at g3
      refine ite_no (by decide) ⟨h1, ?_⟩
      cases k : F.key key with
      | false => rw [k] at g3; exact ite_yes rfl (L19 _ _ g1 g2 g3)
      | true =>
        refine ite_no (by decide) ⟨h2, ?_⟩
        cases v : F.value value with
        | false => rw [v] at g3; exact ite_yes rfl (L19 _ _ g1 g2 (by rw [g3]; simp))
        | true =>
          rw [k, v] at g3
          exact ite_no (by decide) (ite_no (by decide) (L19 _ _ g1 g2 (by rw [g3, if_neg (by decide), if_neg (by omega)])))
  · have e1 : F.getE l key = F.chk l := if_neg c
    have e2 : F.cutE l key = F.chk l := if_neg c
    have e3 : F.setE l key value = F.chk l := if_neg c
    have v1 : F.getV l key = [] := if_neg c
    have v2 : F.digV l = 0 := if_neg c
    refine Runs.go (cfg := C_sfact) L_sfact_ok mixed cuts_snlaw 400 hb (snlaw_t0 l l_t key value) ?_
    simp only [T.wp, T.wp_cond, Aft, Int.ofNat_eq_natCast, decide_eq_true_eq, and_true, true_and, Nat.zero_add, Bool.not_eq_true', decide_eq_false_iff_not]
    rw [zs (by rw [e3]; exact c), zc (by rw [e2]; exact c)]
    exact ⟨h0, ⟨h0, h1, h2⟩, h0, h0, h0, ite_yes c ⟨h0, ite_yes trivial (ite_yes e1 (ite_yes e3 (ite_yes e2 (ite_yes trivial (ite_yes v1 (ite_yes v2 ⟨by unfold i64ok; decide, rfl⟩))))))⟩⟩



noncomputable def s_snlaw : Summ cod := fun args H => match args, H with
  | [.c (.slc 0 l_i l_n l_t), .c (.str key), .c (.str value)], [o0] => (match o0.asInp 1 with | some l => .need ((l_i = 0 ∧ l_n = List.length l) ∧ (F.short l) ∧ (key.length ≤ 1000000000000000) ∧ (value.length ≤ 1000000000000000)) (.ret (.c (.bool true), [])) | none => .fail)
  | _, _ => .fail


theorem snlaw_sound : Sound Tryd.prog cod 3 s_snlaw := sound_runs (cfg := C_sfact) L_sfact_ok mixed Tryd.func3 rfl rfl _ fun args H r news hg b0 hb => by
  unfold s_snlaw at hg
  split at hg
  · skip
    split at hg
    · rename_i l hx0
      cases asInp_spec hx0
      simp only [T.gives, T.wp, Prod.mk.injEq] at hg
      obtain ⟨⟨⟨rfl, rfl⟩, q1, q2, q3⟩, rfl, rfl⟩ := hg
      exact snlaw_run _ _ _ _ b0 hb (by assumption) (by assumption) (by assumption)
    · exact hg.elim
  · exact hg.elim

noncomputable def L_snlaw : Sums cod := (3, .p s_snlaw) :: L_sfact
noncomputable def C_snlaw : Cfg cod := mkC L_snlaw

theorem L_snlaw_ok : Snd Tryd.prog cod L_snlaw := .cons snlaw_sound L_sfact_ok


end
end Go.Proofs.YtoflfgcdagoobaaDoor
