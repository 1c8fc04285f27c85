/- Part of a claim: lemmas on the way to its theorem; each states its own conditions. -/
import Derived.Test.YtiolfkmkbccndaaGreatDoorYb
import Derived.Test.YtiolfkmkbccndaaGreatDoorBd41
namespace Go.Proofs.YtiolfkmkbccndaaGreatDoor
open Sym Go.RowKit
noncomputable section
set_option maxRecDepth 100000
set_option maxHeartbeats 4000000



noncomputable def QD4 : Array Oper := opsJ (regAt Tryz.f16 4)


def cuts_dlv : Cuts := [(100003, [0, 5], 5), (100004, [0], 30)]
def cuts_dlv_r3 : Cuts := [(100004, [0], 30)]
def cuts_dlv_r4 : Cuts := [(100003, [0, 5], 5)]

theorem dlv_t0 (P S : List (List UInt8)) (W : List (Int × Int × Bool × List UInt8)) (t d a : Int) (k : Int) : symI C_answ cuts_dlv Tryz.f16.results.toList ([.blk [.own 1 (List.length P), .own 2 (List.length S), .own 3 (List.length W), .int .i64 t, .int .i64 d, .int .i64 a] 50, .own 2 P 9, .own 2 S 9, .own 6 W 61] : Heap cod) 400 [.code (codeOf Tryz.f16)] ⟨argsS Tryz.f16 [.c (.ptr 0 0 0), .c (.int .i64 k)], ([.blk [.own 1 (List.length P), .own 2 (List.length S), .own 3 (List.length W), .int .i64 t, .int .i64 d, .int .i64 a] 50, .own 2 P 9, .own 2 S 9, .own 6 W 61] : Heap cod)⟩ =
.need ((HObj.blk (cod := cod) [Cell.own 1 (List.length P), Cell.own 2 (List.length S), Cell.own 3 (List.length W), Cell.int IntKind.i64 t,       Cell.int IntKind.i64 d, Cell.int IntKind.i64 a] 50 : HObj cod) =   HObj.blk     [Cell.own 1 (List.length P), Cell.own 2 (List.length S), Cell.own 3 (List.length W), Cell.int IntKind.i64 t,       Cell.int IntKind.i64 d, Cell.int IntKind.i64 a]     50) (
.need (List.length W ≤ 64) (
 cond (!decide (F.tkE { P := P, S := S, W := W, t := t, d := d, a := a } k = 0)) (
 .ret (.fin (.c (.int .i64 (F.tkE { P := P, S := S, W := W, t := t, d := d, a := a } k))) [.blk [.own 1 (List.length P), .own 2 (List.length S), .own 3 (List.length (F.drp { P := P, S := S, W := W, t := t, d := d, a := a } k).W), .int .i64 t, .int .i64 d, .int .i64 a] 50, .own 2 P 9, .own 2 S 9, .own 6 ((F.drp { P := P, S := S, W := W, t := t, d := d, a := a } k).W) 61])) (
 cond (decide (F.ms1 (F.tkM { P := P, S := S, W := W, t := t, d := d, a := a } k) < t)) (
  .ret (.fin (.c (.int .i64 0)) [.blk [.own 1 (List.length P), .own 2 (List.length S), .own 3 (List.length (F.drp { P := P, S := S, W := W, t := t, d := d, a := a } k).W), .int .i64 t, .int .i64 d, .int .i64 a] 50, .own 2 P 9, .own 2 S 9, .own 6 ((F.drp { P := P, S := S, W := W, t := t, d := d, a := a } k).W) 61])) (
  cond (F.ms3 (F.tkM { P := P, S := S, W := W, t := t, d := d, a := a } k)) (
   .ret (.fin (.c (.int .i64 0)) [.blk [.own 1 (List.length P), .own 2 (List.length S), .own 3 (List.length (F.drp { P := P, S := S, W := W, t := t, d := d, a := a } k).W), .int .i64 t, .int .i64 (max d (F.ms2 (F.tkM { P := P, S := S, W := W, t := t, d := d, a := a } k))), .int .i64 (max a (max d (F.ms2 (F.tkM { P := P, S := S, W := W, t := t, d := d, a := a } k))))] 50, .own 2 P 9, .own 2 S 9, .own 6 ((F.drp { P := P, S := S, W := W, t := t, d := d, a := a } k).W) 61])) (
   .need (i64ok (Int.ofNat (List.length S) + 1)) (
   cond (decide (F.ms2 (F.tkM { P := P, S := S, W := W, t := t, d := d, a := a } k) = Int.ofNat (List.length S) + 1)) (
    .ret (.cut (regAt Tryz.f16 3) ⟨tmG 77 [(0, .c (.ptr 0 0 0)), (4, .c (.ptr 4 0 0))], [.blk [.own 1 (List.length P), .own 2 (List.length S), .own 3 (List.length (F.drp { P := P, S := S, W := W, t := t, d := d, a := a } k).W), .int .i64 t, .int .i64 d, .int .i64 a] 50, .own 2 P 9, .own 2 S 9, .own 6 ((F.drp { P := P, S := S, W := W, t := t, d := d, a := a } k).W) 61, .blk [.int .i64 (F.ms1 (F.tkM { P := P, S := S, W := W, t := t, d := d, a := a } k)), .int .i64 (F.ms2 (F.tkM { P := P, S := S, W := W, t := t, d := d, a := a } k)), .bool (F.ms3 (F.tkM { P := P, S := S, W := W, t := t, d := d, a := a } k)), .str (F.ms4 (F.tkM { P := P, S := S, W := W, t := t, d := d, a := a } k))] 61]⟩)) (
    .ret (.cut (regAt Tryz.f16 4) ⟨tmG 82 [(0, .c (.ptr 0 0 0))], [.blk [.own 1 (List.length P), .own 2 (List.length S), .own 3 (List.length (F.drp { P := P, S := S, W := W, t := t, d := d, a := a } k).W), .int .i64 t, .int .i64 d, .int .i64 a] 50, .own 2 P 9, .own 2 S 9, .own 6 ((F.drp { P := P, S := S, W := W, t := t, d := d, a := a } k).W) 61, .blk [.int .i64 (F.ms1 (F.tkM { P := P, S := S, W := W, t := t, d := d, a := a } k)), .int .i64 (F.ms2 (F.tkM { P := P, S := S, W := W, t := t, d := d, a := a } k)), .bool (F.ms3 (F.tkM { P := P, S := S, W := W, t := t, d := d, a := a } k)), .str (F.ms4 (F.tkM { P := P, S := S, W := W, t := t, d := d, a := a } k))] 61]⟩)))))))) := by kernel_rfl


noncomputable def st_dlv_r3 (P S : List (List UInt8)) (W : List (Int × Int × Bool × List UInt8)) (t d a : Int) (k : Int) (mt mn : Int) (mk : Bool) (mx : List UInt8) (V : List (Int × Int × Bool × List UInt8)) : St cod := ⟨tmG 77 [(0, .c (.ptr 0 0 0)), (4, .c (.ptr 4 0 0))], ([.blk [.own 1 (List.length P), .own 2 (List.length S), .own 3 (List.length V), .int .i64 t, .int .i64 d, .int .i64 a] 50, .own 2 P 9, .own 2 S 9, .own 6 V 61, .blk [.int .i64 mt, .int .i64 mn, .bool mk, .str mx] 61] : Heap cod)⟩


theorem dlv_tr3 (P S : List (List UInt8)) (W : List (Int × Int × Bool × List UInt8)) (t d a : Int) (k : Int) (mt mn : Int) (mk : Bool) (mx : List UInt8) (V : List (Int × Int × Bool × List UInt8)) : symI C_answ cuts_dlv_r3 Tryz.f16.results.toList ([.blk [.own 1 (List.length P), .own 2 (List.length S), .own 3 (List.length W), .int .i64 t, .int .i64 d, .int .i64 a] 50, .own 2 P 9, .own 2 S 9, .own 6 W 61] : Heap cod) 400 (regAt Tryz.f16 3) (st_dlv_r3 P S W t d a k mt mn mk mx V) =
.need (1 = 1) (
.need (List.length S + 1 ≤ 1000000) (
.ret (.cut (regAt Tryz.f16 4) ⟨tmG 82 [(0, .c (.ptr 0 0 0))], [.blk [.own 1 (List.length P), .own 6 (List.length S + 1), .own 3 (List.length V), .int .i64 t, .int .i64 d, .int .i64 a] 50, .own 2 P 9, .dead, .own 6 V 61, .blk [.int .i64 mt, .int .i64 mn, .bool mk, .str mx] 61, .arr 2 [mx] 9, .own 2 (S ++ [mx]) 9]⟩))) := by kernel_rfl


noncomputable def st_dlv_r4 (P S : List (List UInt8)) (W : List (Int × Int × Bool × List UInt8)) (t d a : Int) (k : Int) (Z : List (List UInt8)) (V : List (Int × Int × Bool × List UInt8)) (q : Nat) : St cod := ⟨tmG 82 [(0, .c (.ptr 0 0 0))], ([.blk [.own 1 (List.length P), .own 2 q, .own 3 (List.length V), .int .i64 t, .int .i64 d, .int .i64 a] 50, .own 2 P 9, .own 2 Z 9, .own 6 V 61] : Heap cod)⟩


theorem dlv_x4 (P S : List (List UInt8)) (W : List (Int × Int × Bool × List UInt8)) (t d a : Int) (k : Int) (Z : List (List UInt8)) (V : List (Int × Int × Bool × List UInt8)) (q : Nat) : ((preT C_answ (preA QD4 12) [some 44] (st_dlv_r4 P S W t d a k Z V q)).bind fun s => (Sym.lexT C_answ (QD4.toList.drop 12) s).bind fun s2 => symI C_answ cuts_dlv_r4 Tryz.f16.results.toList ([.blk [.own 1 (List.length P), .own 2 (List.length S), .own 3 (List.length W), .int .i64 t, .int .i64 d, .int .i64 a] 50, .own 2 P 9, .own 2 S 9, .own 6 W 61] : Heap cod) 400 (regAt Tryz.f16 4).tail s2) =
.need ((HObj.blk (cod := cod) [Cell.own 2 (List.length P), Cell.own 3 q, Cell.own 4 (List.length V), Cell.int IntKind.i64 t,       Cell.int IntKind.i64 d, Cell.int IntKind.i64 a] 50 : HObj cod) =   HObj.blk     [Cell.own 2 (List.length P), Cell.own 3 (List.length Z), Cell.own 4 (List.length V), Cell.int IntKind.i64 t,       Cell.int IntKind.i64 d, Cell.int IntKind.i64 a]     50) (
.need ((SV.c (Cell.slc 1 0 1 true) : SV) = SV.c (Cell.slc 1 0 1 true)) (
.need ((List.length V ≤ 64 ∧ ((0 : Nat) < 1 ∧ (1 : Nat) ≤ 64))) (
.ret (.fin (.c (.int .i64 (F.sndE V [(t, Int.ofNat q, true, [])]))) [.blk [.own 1 (List.length P), .own 2 (List.length Z), .own 3 (List.length (F.sndW V [(t, Int.ofNat q, true, [])])), .int .i64 t, .int .i64 d, .int .i64 a] 50, .own 2 P 9, .own 2 Z 9, .own 6 (F.sndW V [(t, Int.ofNat q, true, [])]) 61])))) := by kernel_rfl



theorem QD4_at : regAt Tryz.f16 4 = .code (.region (idJ (regAt Tryz.f16 4)) QD4 true) :: (regAt Tryz.f16 4).tail := by kernel_rfl
theorem QD4_ok : (decide (12 ≤ QD4.size) && acyc QD4 && lastAll QD4 12 && QD4.toList.all fun o => o.guard.isNone) = true := by kernel_rfl
theorem snd1 {V : List F.Msg} (h : V.length + 1 ≤ 64) (m : F.Msg) : F.sndE V [m] = 0 ∧ F.sndW V [m] = V ++ [m] := ⟨if_neg (by simp only [List.length_singleton]; omega), if_neg (by simp only [List.length_singleton]; omega)⟩
theorem dlv4 (P S : List (List UInt8)) (W : List (Int × Int × Bool × List UInt8)) (t d a : Int) (k : Int) (Z : List (List UInt8)) (V : List (Int × Int × Bool × List UInt8)) (q : Nat) (b0 : Base) (hb : b0.n = 4) (hq : q = Z.length) (hV : V.length + 1 ≤ 64) :
    Sym.Runs Tryz.prog b0 (regAt Tryz.f16 4) (st_dlv_r4 P S W t d a k Z V q) (Sym.EndsI Tryz.prog Tryz.f16 ([.blk [.own 1 (List.length P), .own 2 (List.length S), .own 3 (List.length W), .int .i64 t, .int .i64 d, .int .i64 a] 50, .own 2 P 9, .own 2 S 9, .own 6 W 61] : Heap cod) (.c (.int .i64 0)) [.blk [.own 1 (List.length P), .own 2 (List.length Z), .own 3 (List.length (V ++ [(t, (q : Int), true, [])])), .int .i64 t, .int .i64 d, .int .i64 a] 50, .own 2 P 9, .own 2 Z 9, .own 6 (V ++ [(t, (q : Int), true, [])]) 61]) := by
  refine Runs.preI (cfg := C_answ) L_answ_ok mixed cuts_dlv_r4 (H := ([.blk [.own 1 (List.length P), .own 2 (List.length S), .own 3 (List.length W), .int .i64 t, .int .i64 d, .int .i64 a] 50, .own 2 P 9, .own 2 S 9, .own 6 W 61] : Heap cod)) 400 hb QD4_at 12 _ QD4_ok (dlv_x4 P S W t d a k Z V q) ?_
  have e := snd1 hV (t, Int.ofNat q, true, [])
  rw [e.1, e.2]
  exact ⟨by rw [hq], rfl, ⟨by omega, by omega, by omega⟩, rfl, rfl⟩
theorem dlv_run (P S : List (List UInt8)) (W : List (Int × Int × Bool × List UInt8)) (t d a : Int) (k : Int) (b0 : Base) (hb : b0.n = 4) (h0 : W.length ≤ 64 ∧ P.length ≤ 64 ∧ S.length ≤ 64) : Sym.Runs Tryz.prog b0 [.code (codeOf Tryz.f16)] ⟨argsS Tryz.f16 [.c (.ptr 0 0 0), .c (.int .i64 k)], ([.blk [.own 1 (List.length P), .own 2 (List.length S), .own 3 (List.length W), .int .i64 t, .int .i64 d, .int .i64 a] 50, .own 2 P 9, .own 2 S 9, .own 6 W 61] : Heap cod)⟩ (Sym.EndsI Tryz.prog Tryz.f16 ([.blk [.own 1 (List.length P), .own 2 (List.length S), .own 3 (List.length W), .int .i64 t, .int .i64 d, .int .i64 a] 50, .own 2 P 9, .own 2 S 9, .own 6 W 61] : Heap cod) (.c (.int .i64 (F.tkE (F.PS.mk P S W t d a) k))) [.blk [.own 1 (List.length P), .own 2 (List.length (F.dlv (F.PS.mk P S W t d a) k).S), .own 3 (List.length (F.dlv (F.PS.mk P S W t d a) k).W), .int .i64 t, .int .i64 (F.dlv (F.PS.mk P S W t d a) k).d, .int .i64 (F.dlv (F.PS.mk P S W t d a) k).a] 50, .own 2 P 9, .own 2 (F.dlv (F.PS.mk P S W t d a) k).S 9, .own 6 (F.dlv (F.PS.mk P S W t d a) k).W 61]) := by
  refine Runs.knows 2 hb (by decide) rfl (fun ho => ?_)
  refine Runs.goI (cfg := C_answ) L_answ_ok mixed cuts_dlv 400 (H := ([.blk [.own 1 (List.length P), .own 2 (List.length S), .own 3 (List.length W), .int .i64 t, .int .i64 d, .int .i64 a] 50, .own 2 P 9, .own 2 S 9, .own 6 W 61] : Heap cod)) hb (dlv_t0 P S W t d a k) ?_
  obtain ⟨w1, p1, s1⟩ := h0
  refine ⟨rfl, w1, ?_⟩
  by_cases c : F.tkE (F.PS.mk P S W t d a) k = 0
  · have em : F.tkM (F.PS.mk P S W t d a) k = W.getD k.toNat F.m0 := if_pos c
    have ew : F.drp (F.PS.mk P S W t d a) k = { (F.PS.mk P S W t d a) with W := W.eraseIdx k.toNat } := if_pos c
    have eD : F.dlv (F.PS.mk P S W t d a) k = F.dlvM { (F.PS.mk P S W t d a) with W := W.eraseIdx k.toNat } (W.getD k.toNat F.m0) := by
      unfold F.dlv
      rw [if_pos c, ew]
    obtain ⟨k0, k1⟩ := F.tke_ok c
    have k1 : k < (W.length : Int) := k1
    have hV : (W.eraseIdx k.toNat).length + 1 = W.length := by rw [List.length_eraseIdx, if_pos (by omega)]; omega
    rw [em, ew, eD, c]
    generalize W.eraseIdx k.toNat = V at *
    generalize W.getD k.toNat F.m0 = m at *
    obtain ⟨mt, mn, mk, mx⟩ := m
    simp only [T.wp, T.wp_cond, Aft, Int.ofNat_eq_natCast, true_and, Bool.not_eq_true', decide_eq_false_iff_not, F.ms1, F.ms2, F.ms3, F.ms4]
    refine ite_no (by simp) ?_
    by_cases c1 : mt < t
    · have e1 : F.dlvM { (F.PS.mk P S W t d a) with W := V } (mt, mn, mk, mx) = { (F.PS.mk P S W t d a) with W := V } := if_pos c1
      rw [e1]
      exact ite_yes (decide_eq_true c1) (by first | trivial | exact ⟨rfl, rfl⟩)
    refine ite_no (fun h => c1 (of_decide_eq_true h)) ?_
    cases mk with
    | true =>
      have e1 : F.dlvM { (F.PS.mk P S W t d a) with W := V } (mt, mn, true, mx) = { (F.PS.mk P S W t d a) with W := V, d := max d mn, a := max a (max d mn) } := by
        unfold F.dlvM
        rw [if_neg c1, if_pos rfl]
      rw [e1]
      exact ite_yes (by first | rfl | trivial) (by first | trivial | exact ⟨rfl, rfl⟩)
    | false =>
      refine ite_no (by simp) ⟨by unfold i64ok; omega, ?_⟩
      by_cases c3 : mn = (S.length : Int) + 1
      · have e1 : F.dlvM { (F.PS.mk P S W t d a) with W := V } (mt, mn, false, mx) = { (F.PS.mk P S W t d a) with W := V ++ [(t, (S.length : Int) + 1, true, [])], S := S ++ [mx] } := by
          unfold F.dlvM
          rw [if_neg c1, if_neg (by simp), if_pos c3]
        rw [e1]
        refine ite_yes (decide_eq_true c3) ?_
        refine Runs.weaken (st' := st_dlv_r3 P S W t d a k mt mn false mx V) (fun a w hR => hR) ?_
        refine Runs.goI (cfg := C_answ) L_answ_ok mixed cuts_dlv_r3 400 (H := ([.blk [.own 1 (List.length P), .own 2 (List.length S), .own 3 (List.length W), .int .i64 t, .int .i64 d, .int .i64 a] 50, .own 2 P 9, .own 2 S 9, .own 6 W 61] : Heap cod)) hb (dlv_tr3 P S W t d a k mt mn false mx V) ?_
        refine ⟨rfl, by omega, ?_⟩
        have A := dlv4 P S W t d a k (S ++ [mx]) V (S.length + 1) b0 hb (by rw [List.length_append]; rfl) (by omega)
        refine Runs.back 2 6 hb (by decide) (by decide) (by simp) rfl ho rfl ?_
        exact Runs.turn [0, 1, 2, 3] 1 hb (by decide) rfl rfl rfl A
      · have e1 : F.dlvM { (F.PS.mk P S W t d a) with W := V } (mt, mn, false, mx) = { (F.PS.mk P S W t d a) with W := V ++ [(t, (S.length : Int), true, [])] } := by
          unfold F.dlvM
          rw [if_neg c1, if_neg (by simp), if_neg c3]
        rw [e1]
        refine ite_no (fun h => c3 (of_decide_eq_true h)) ?_
        have A := dlv4 P S W t d a k S V S.length b0 hb rfl (by omega)
        exact Runs.turn [0, 1, 2, 3] 1 hb (by decide) rfl rfl rfl A
  · have ew : F.drp (F.PS.mk P S W t d a) k = (F.PS.mk P S W t d a) := if_neg c
    have eD : F.dlv (F.PS.mk P S W t d a) k = (F.PS.mk P S W t d a) := if_neg c
    rw [ew, eD]
    simp only [T.wp, T.wp_cond, Aft, Int.ofNat_eq_natCast, decide_eq_true_eq, and_true, Bool.not_eq_true', decide_eq_false_iff_not]
    exact ite_yes c (by first | trivial | exact ⟨rfl, rfl⟩)



noncomputable def s_dlv : Summ cod := fun args H => match args, H with
  | [.c (.ptr 0 0 0), .c (.int .i64 k)], [.blk [.own 1 pn, .own 2 sn, .own 3 wn, .int .i64 t, .int .i64 d, .int .i64 a] 50, o1, o2, o3] => (match o1.asOwn 2 9 with | some P => (match o2.asOwn 2 9 with | some S => (match o3.asOwn 6 61 with | some W => .need ((.blk [.own 1 pn, .own 2 sn, .own 3 wn, .int .i64 t, .int .i64 d, .int .i64 a] 50 : HObj cod) = .blk [.own 1 (List.length P), .own 2 (List.length S), .own 3 (List.length W), .int .i64 t, .int .i64 d, .int .i64 a] 50) (.need ((W.length ≤ 64 ∧ P.length ≤ 64 ∧ S.length ≤ 64)) (.ret (.c (.int .i64 (F.tkE (F.PS.mk P S W t d a) k)), [.blk [.own 1 (List.length P), .own 2 (List.length (F.dlv (F.PS.mk P S W t d a) k).S), .own 3 (List.length (F.dlv (F.PS.mk P S W t d a) k).W), .int .i64 t, .int .i64 (F.dlv (F.PS.mk P S W t d a) k).d, .int .i64 (F.dlv (F.PS.mk P S W t d a) k).a] 50, .own 2 P 9, .own 2 (F.dlv (F.PS.mk P S W t d a) k).S 9, .own 6 (F.dlv (F.PS.mk P S W t d a) k).W 61]))) | none => .fail) | none => .fail) | none => .fail)
  | _, _ => .fail


theorem dlv_sound : SoundI Tryz.prog cod 16 s_dlv := tree_soundI (cfg := C_answ) Tryz.func16 rfl rfl _ fun args H r H' hg b0 hb => by
  unfold s_dlv at hg
  split at hg
  · skip
    split at hg
    · rename_i P hx1
      cases asOwn_spec hx1
      split at hg
      · rename_i S hx2
        cases asOwn_spec hx2
        split at hg
        · rename_i W hx3
          cases asOwn_spec hx3
          obtain ⟨ot0, hg⟩ := hg
          cases ot0
          obtain ⟨hq, hg⟩ := hg
          have q0 := hq
          cases hg
          exact dlv_run _ _ _ _ _ _ _ b0 hb (by assumption)
        · exact hg.elim
      · exact hg.elim
    · exact hg.elim
  · exact hg.elim

noncomputable def L_dlv : Sums cod := (16, .i s_dlv) :: L_answ
noncomputable def C_dlv : Cfg cod := mkC L_dlv

theorem L_dlv_ok : Snd Tryz.prog cod L_dlv := .consI dlv_sound L_answ_ok



def cuts_tkoA : Cuts := []

theorem tkoA_t0 (P S : List (List UInt8)) (W : List (Int × Int × Bool × List UInt8)) (t d a : Int) : symI C_dlv cuts_tkoA Tryz.f15.results.toList ([.blk [.own 1 (List.length P), .own 2 (List.length S), .own 3 (List.length W), .int .i64 t, .int .i64 d, .int .i64 a] 50, .own 2 P 9, .own 2 S 9, .own 6 W 61] : Heap cod) 400 [.code (codeOf Tryz.f15)] ⟨argsS Tryz.f15 [.c (.ptr 0 0 0)], ([.blk [.own 1 (List.length P), .own 2 (List.length S), .own 3 (List.length W), .int .i64 t, .int .i64 d, .int .i64 a] 50, .own 2 P 9, .own 2 S 9, .own 6 W 61] : Heap cod)⟩ =
 cond (decide (Int.ofNat (List.length S) < a)) (
 .ret (.fin (.c (.int .i64 21)) [.blk [.own 1 (List.length P), .own 2 (List.length S), .own 3 (List.length W), .int .i64 t, .int .i64 d, .int .i64 a] 50, .own 2 P 9, .own 2 S 9, .own 6 W 61])) (
 .need (i64ok (t + 1)) (
 .ret (.fin (.c (.int .i64 0)) [.blk [.own 2 (List.length S), .nil, .own 3 (List.length W), .int .i64 (t + 1), .int .i64 0, .int .i64 a] 50, .own 2 P 9, .own 2 S 9, .own 6 W 61]))) := by kernel_rfl



theorem tkoA_run (P S : List (List UInt8)) (W : List (Int × Int × Bool × List UInt8)) (t d a : Int) (b0 : Base) (hb : b0.n = 4) (h0 : (List.length S : Int) < a) : Sym.Runs Tryz.prog b0 [.code (codeOf Tryz.f15)] ⟨argsS Tryz.f15 [.c (.ptr 0 0 0)], ([.blk [.own 1 (List.length P), .own 2 (List.length S), .own 3 (List.length W), .int .i64 t, .int .i64 d, .int .i64 a] 50, .own 2 P 9, .own 2 S 9, .own 6 W 61] : Heap cod)⟩ (Sym.EndsI Tryz.prog Tryz.f15 ([.blk [.own 1 (List.length P), .own 2 (List.length S), .own 3 (List.length W), .int .i64 t, .int .i64 d, .int .i64 a] 50, .own 2 P 9, .own 2 S 9, .own 6 W 61] : Heap cod) (.c (.int .i64 21)) [.blk [.own 1 (List.length P), .own 2 (List.length S), .own 3 (List.length W), .int .i64 t, .int .i64 d, .int .i64 a] 50, .own 2 P 9, .own 2 S 9, .own 6 W 61]) := by
  refine Runs.goI (cfg := C_dlv) L_dlv_ok mixed cuts_tkoA 400 (H := ([.blk [.own 1 (List.length P), .own 2 (List.length S), .own 3 (List.length W), .int .i64 t, .int .i64 d, .int .i64 a] 50, .own 2 P 9, .own 2 S 9, .own 6 W 61] : Heap cod)) hb (tkoA_t0 P S W t d a) ?_
  simp only [T.wp, T.wp_cond, Aft, Int.ofNat_eq_natCast, decide_eq_true_eq, and_true]
  exact ite_yes h0 (by first | trivial | exact ⟨rfl, rfl⟩)



noncomputable def s_tkoA : Summ cod := fun args H => match args, H with
  | [.c (.ptr 0 0 0)], [.blk [.own 1 pn, .own 2 sn, .own 3 wn, .int .i64 t, .int .i64 d, .int .i64 a] 50, o1, o2, o3] => (match o1.asOwn 2 9 with | some P => (match o2.asOwn 2 9 with | some S => (match o3.asOwn 6 61 with | some W => .need ((.blk [.own 1 pn, .own 2 sn, .own 3 wn, .int .i64 t, .int .i64 d, .int .i64 a] 50 : HObj cod) = .blk [.own 1 (List.length P), .own 2 (List.length S), .own 3 (List.length W), .int .i64 t, .int .i64 d, .int .i64 a] 50) (.need (((List.length S : Int) < a)) (.ret (.c (.int .i64 21), [.blk [.own 1 (List.length P), .own 2 (List.length S), .own 3 (List.length W), .int .i64 t, .int .i64 d, .int .i64 a] 50, .own 2 P 9, .own 2 S 9, .own 6 W 61]))) | none => .fail) | none => .fail) | none => .fail)
  | _, _ => .fail


theorem tkoA_sound : SoundI Tryz.prog cod 15 s_tkoA := tree_soundI (cfg := C_dlv) Tryz.func15 rfl rfl _ fun args H r H' hg b0 hb => by
  unfold s_tkoA at hg
  split at hg
  · skip
    split at hg
    · rename_i P hx1
      cases asOwn_spec hx1
      split at hg
      · rename_i S hx2
        cases asOwn_spec hx2
        split at hg
        · rename_i W hx3
          cases asOwn_spec hx3
          obtain ⟨ot0, hg⟩ := hg
          cases ot0
          obtain ⟨hq, hg⟩ := hg
          have q0 := hq
          cases hg
          exact tkoA_run _ _ _ _ _ _ b0 hb (by assumption)
        · exact hg.elim
      · exact hg.elim
    · exact hg.elim
  · exact hg.elim

noncomputable def L_tkoA : Sums cod := (15, .i s_tkoA) :: L_dlv
noncomputable def C_tkoA : Cfg cod := mkC L_tkoA

theorem L_tkoA_ok : Snd Tryz.prog cod L_tkoA := .consI tkoA_sound L_dlv_ok



def cuts_tkoB : Cuts := []

theorem tkoB_t0 (P S : List (List UInt8)) (W : List (Int × Int × Bool × List UInt8)) (t d a : Int) : symI C_tkoA cuts_tkoB Tryz.f15.results.toList ([.blk [.own 1 (List.length P), .own 2 (List.length S), .own 3 (List.length W), .int .i64 t, .int .i64 d, .int .i64 a] 50, .own 2 P 9, .own 2 S 9, .own 6 W 61] : Heap cod) 400 [.code (codeOf Tryz.f15)] ⟨argsS Tryz.f15 [.c (.ptr 0 0 0)], ([.blk [.own 1 (List.length P), .own 2 (List.length S), .own 3 (List.length W), .int .i64 t, .int .i64 d, .int .i64 a] 50, .own 2 P 9, .own 2 S 9, .own 6 W 61] : Heap cod)⟩ =
 cond (decide (Int.ofNat (List.length S) < a)) (
 .ret (.fin (.c (.int .i64 21)) [.blk [.own 1 (List.length P), .own 2 (List.length S), .own 3 (List.length W), .int .i64 t, .int .i64 d, .int .i64 a] 50, .own 2 P 9, .own 2 S 9, .own 6 W 61])) (
 .need (i64ok (t + 1)) (
 .ret (.fin (.c (.int .i64 0)) [.blk [.own 2 (List.length S), .nil, .own 3 (List.length W), .int .i64 (t + 1), .int .i64 0, .int .i64 a] 50, .own 2 P 9, .own 2 S 9, .own 6 W 61]))) := by kernel_rfl



theorem tkoB_run (P S : List (List UInt8)) (W : List (Int × Int × Bool × List UInt8)) (t d a : Int) (b0 : Base) (hb : b0.n = 4) (h0 : ¬ (List.length S : Int) < a ∧ Sym.i64ok (t + 1)) : Sym.Runs Tryz.prog b0 [.code (codeOf Tryz.f15)] ⟨argsS Tryz.f15 [.c (.ptr 0 0 0)], ([.blk [.own 1 (List.length P), .own 2 (List.length S), .own 3 (List.length W), .int .i64 t, .int .i64 d, .int .i64 a] 50, .own 2 P 9, .own 2 S 9, .own 6 W 61] : Heap cod)⟩ (Sym.EndsI Tryz.prog Tryz.f15 ([.blk [.own 1 (List.length P), .own 2 (List.length S), .own 3 (List.length W), .int .i64 t, .int .i64 d, .int .i64 a] 50, .own 2 P 9, .own 2 S 9, .own 6 W 61] : Heap cod) (.c (.int .i64 0)) [.blk [.own 2 (List.length S), .nil, .own 3 (List.length W), .int .i64 (t + 1), .int .i64 0, .int .i64 a] 50, .own 2 P 9, .own 2 S 9, .own 6 W 61]) := by
  refine Runs.goI (cfg := C_tkoA) L_tkoA_ok mixed cuts_tkoB 400 (H := ([.blk [.own 1 (List.length P), .own 2 (List.length S), .own 3 (List.length W), .int .i64 t, .int .i64 d, .int .i64 a] 50, .own 2 P 9, .own 2 S 9, .own 6 W 61] : Heap cod)) hb (tkoB_t0 P S W t d a) ?_
  simp only [T.wp, T.wp_cond, Aft, Int.ofNat_eq_natCast, decide_eq_true_eq, and_true]
  exact ite_no h0.1 (by first | exact h0.2 | exact ⟨h0.2, rfl, rfl⟩)



noncomputable def s_tkoB : Summ cod := fun args H => match args, H with
  | [.c (.ptr 0 0 0)], [.blk [.own 1 pn, .own 2 sn, .own 3 wn, .int .i64 t, .int .i64 d, .int .i64 a] 50, o1, o2, o3] => (match o1.asOwn 2 9 with | some P => (match o2.asOwn 2 9 with | some S => (match o3.asOwn 6 61 with | some W => .need ((.blk [.own 1 pn, .own 2 sn, .own 3 wn, .int .i64 t, .int .i64 d, .int .i64 a] 50 : HObj cod) = .blk [.own 1 (List.length P), .own 2 (List.length S), .own 3 (List.length W), .int .i64 t, .int .i64 d, .int .i64 a] 50) (.need ((¬ (List.length S : Int) < a ∧ Sym.i64ok (t + 1))) (.ret (.c (.int .i64 0), [.blk [.own 2 (List.length S), .nil, .own 3 (List.length W), .int .i64 (t + 1), .int .i64 0, .int .i64 a] 50, .own 2 P 9, .own 2 S 9, .own 6 W 61]))) | none => .fail) | none => .fail) | none => .fail)
  | _, _ => .fail


theorem tkoB_sound : SoundI Tryz.prog cod 15 s_tkoB := tree_soundI (cfg := C_tkoA) Tryz.func15 rfl rfl _ fun args H r H' hg b0 hb => by
  unfold s_tkoB at hg
  split at hg
  · skip
    split at hg
    · rename_i P hx1
      cases asOwn_spec hx1
      split at hg
      · rename_i S hx2
        cases asOwn_spec hx2
        split at hg
        · rename_i W hx3
          cases asOwn_spec hx3
          obtain ⟨ot0, hg⟩ := hg
          cases ot0
          obtain ⟨hq, hg⟩ := hg
          have q0 := hq
          cases hg
          exact tkoB_run _ _ _ _ _ _ b0 hb (by assumption)
        · exact hg.elim
      · exact hg.elim
    · exact hg.elim
  · exact hg.elim

noncomputable def L_tkoB : Sums cod := (15, .i s_tkoB) :: L_tkoA
noncomputable def C_tkoB : Cfg cod := mkC L_tkoB

theorem L_tkoB_ok : Snd Tryz.prog cod L_tkoB := .consI tkoB_sound L_tkoA_ok



def cuts_wirA : Cuts := []

theorem wirA_t0 (P S : List (List UInt8)) (W : List (Int × Int × Bool × List UInt8)) (t d a : Int) : symI C_tkoB cuts_wirA Tryz.f10.results.toList ([.blk [.own 1 (List.length P), .own 2 (List.length S), .own 3 (List.length W), .int .i64 t, .int .i64 d, .int .i64 a] 50, .own 2 P 9, .own 2 S 9, .own 6 W 61] : Heap cod) 400 [.code (codeOf Tryz.f10)] ⟨argsS Tryz.f10 [.c (.ptr 0 0 0)], ([.blk [.own 1 (List.length P), .own 2 (List.length S), .own 3 (List.length W), .int .i64 t, .int .i64 d, .int .i64 a] 50, .own 2 P 9, .own 2 S 9, .own 6 W 61] : Heap cod)⟩ =
.ite (decide (List.length W = 0)) (
 .need (List.length W = 0) (
 .ret (.fin (.c (.slc 3 0 0 true)) [.blk [.own 1 (List.length P), .own 2 (List.length S), .own 3 (List.length W), .int .i64 t, .int .i64 d, .int .i64 a] 50, .own 2 P 9, .own 2 S 9, .own 6 W 61]))) (
 .need ((0 + List.length W ≤ List.length W ∧ ((0 : Nat) < List.length W ∧ List.length W ≤ 1000000))) (
 .ret (.fin (.c (.own 4 (List.length W))) [.blk [.own 1 (List.length P), .own 2 (List.length S), .own 3 (List.length W), .int .i64 t, .int .i64 d, .int .i64 a] 50, .own 2 P 9, .own 2 S 9, .own 6 W 61, .own 6 (List.take (List.length W) (List.drop 0 W)) 61]))) := by kernel_rfl



theorem wirA_run (P S : List (List UInt8)) (W : List (Int × Int × Bool × List UInt8)) (t d a : Int) (b0 : Base) (hb : b0.n = 4) (h0 : W = []) : Sym.Runs Tryz.prog b0 [.code (codeOf Tryz.f10)] ⟨argsS Tryz.f10 [.c (.ptr 0 0 0)], ([.blk [.own 1 (List.length P), .own 2 (List.length S), .own 3 (List.length W), .int .i64 t, .int .i64 d, .int .i64 a] 50, .own 2 P 9, .own 2 S 9, .own 6 W 61] : Heap cod)⟩ (Sym.EndsI Tryz.prog Tryz.f10 ([.blk [.own 1 (List.length P), .own 2 (List.length S), .own 3 (List.length W), .int .i64 t, .int .i64 d, .int .i64 a] 50, .own 2 P 9, .own 2 S 9, .own 6 W 61] : Heap cod) (.c (.slc 3 0 0 true)) [.blk [.own 1 (List.length P), .own 2 (List.length S), .own 3 (List.length W), .int .i64 t, .int .i64 d, .int .i64 a] 50, .own 2 P 9, .own 2 S 9, .own 6 W 61]) := by
  refine Runs.goI (cfg := C_tkoB) L_tkoB_ok mixed cuts_wirA 400 (H := ([.blk [.own 1 (List.length P), .own 2 (List.length S), .own 3 (List.length W), .int .i64 t, .int .i64 d, .int .i64 a] 50, .own 2 P 9, .own 2 S 9, .own 6 W 61] : Heap cod)) hb (wirA_t0 P S W t d a) ?_
  subst h0
  exact ⟨fun _ => ⟨rfl, rfl, rfl⟩, fun h => by simp at h⟩



noncomputable def s_wirA : Summ cod := fun args H => match args, H with
  | [.c (.ptr 0 0 0)], [.blk [.own 1 pn, .own 2 sn, .own 3 wn, .int .i64 t, .int .i64 d, .int .i64 a] 50, o1, o2, o3] => (match o1.asOwn 2 9 with | some P => (match o2.asOwn 2 9 with | some S => (match o3.asOwn 6 61 with | some W => .need ((.blk [.own 1 pn, .own 2 sn, .own 3 wn, .int .i64 t, .int .i64 d, .int .i64 a] 50 : HObj cod) = .blk [.own 1 (List.length P), .own 2 (List.length S), .own 3 (List.length W), .int .i64 t, .int .i64 d, .int .i64 a] 50) (.need ((W = [])) (.ret (.c (.slc 3 0 0 true), [.blk [.own 1 (List.length P), .own 2 (List.length S), .own 3 (List.length W), .int .i64 t, .int .i64 d, .int .i64 a] 50, .own 2 P 9, .own 2 S 9, .own 6 W 61]))) | none => .fail) | none => .fail) | none => .fail)
  | _, _ => .fail


theorem wirA_sound : SoundI Tryz.prog cod 10 s_wirA := tree_soundI (cfg := C_tkoB) Tryz.func10 rfl rfl _ fun args H r H' hg b0 hb => by
  unfold s_wirA at hg
  split at hg
  · skip
    split at hg
    · rename_i P hx1
      cases asOwn_spec hx1
      split at hg
      · rename_i S hx2
        cases asOwn_spec hx2
        split at hg
        · rename_i W hx3
          cases asOwn_spec hx3
          obtain ⟨ot0, hg⟩ := hg
          cases ot0
          obtain ⟨hq, hg⟩ := hg
          have q0 := hq
          cases hg
          exact wirA_run _ _ _ _ _ _ b0 hb (by assumption)
        · exact hg.elim
      · exact hg.elim
    · exact hg.elim
  · exact hg.elim

noncomputable def L_wirA : Sums cod := (10, .i s_wirA) :: L_tkoB
noncomputable def C_wirA : Cfg cod := mkC L_wirA

theorem L_wirA_ok : Snd Tryz.prog cod L_wirA := .consI wirA_sound L_tkoB_ok



def cuts_wirB : Cuts := []

theorem wirB_t0 (P S : List (List UInt8)) (W : List (Int × Int × Bool × List UInt8)) (t d a : Int) : symI C_wirA cuts_wirB Tryz.f10.results.toList ([.blk [.own 1 (List.length P), .own 2 (List.length S), .own 3 (List.length W), .int .i64 t, .int .i64 d, .int .i64 a] 50, .own 2 P 9, .own 2 S 9, .own 6 W 61] : Heap cod) 400 [.code (codeOf Tryz.f10)] ⟨argsS Tryz.f10 [.c (.ptr 0 0 0)], ([.blk [.own 1 (List.length P), .own 2 (List.length S), .own 3 (List.length W), .int .i64 t, .int .i64 d, .int .i64 a] 50, .own 2 P 9, .own 2 S 9, .own 6 W 61] : Heap cod)⟩ =
.ite (decide (List.length W = 0)) (
 .need (List.length W = 0) (
 .ret (.fin (.c (.slc 3 0 0 true)) [.blk [.own 1 (List.length P), .own 2 (List.length S), .own 3 (List.length W), .int .i64 t, .int .i64 d, .int .i64 a] 50, .own 2 P 9, .own 2 S 9, .own 6 W 61]))) (
 .need ((0 + List.length W ≤ List.length W ∧ ((0 : Nat) < List.length W ∧ List.length W ≤ 1000000))) (
 .ret (.fin (.c (.own 4 (List.length W))) [.blk [.own 1 (List.length P), .own 2 (List.length S), .own 3 (List.length W), .int .i64 t, .int .i64 d, .int .i64 a] 50, .own 2 P 9, .own 2 S 9, .own 6 W 61, .own 6 (List.take (List.length W) (List.drop 0 W)) 61]))) := by kernel_rfl



theorem wirB_run (P S : List (List UInt8)) (W : List (Int × Int × Bool × List UInt8)) (t d a : Int) (b0 : Base) (hb : b0.n = 4) (h0 : 0 < W.length ∧ W.length ≤ 64) : Sym.Runs Tryz.prog b0 [.code (codeOf Tryz.f10)] ⟨argsS Tryz.f10 [.c (.ptr 0 0 0)], ([.blk [.own 1 (List.length P), .own 2 (List.length S), .own 3 (List.length W), .int .i64 t, .int .i64 d, .int .i64 a] 50, .own 2 P 9, .own 2 S 9, .own 6 W 61] : Heap cod)⟩ (Sym.EndsI Tryz.prog Tryz.f10 ([.blk [.own 1 (List.length P), .own 2 (List.length S), .own 3 (List.length W), .int .i64 t, .int .i64 d, .int .i64 a] 50, .own 2 P 9, .own 2 S 9, .own 6 W 61] : Heap cod) (.c (.own 4 (List.length W))) [.blk [.own 1 (List.length P), .own 2 (List.length S), .own 3 (List.length W), .int .i64 t, .int .i64 d, .int .i64 a] 50, .own 2 P 9, .own 2 S 9, .own 6 W 61, .own 6 W 61]) := by
  refine Runs.goI (cfg := C_wirA) L_wirA_ok mixed cuts_wirB 400 (H := ([.blk [.own 1 (List.length P), .own 2 (List.length S), .own 3 (List.length W), .int .i64 t, .int .i64 d, .int .i64 a] 50, .own 2 P 9, .own 2 S 9, .own 6 W 61] : Heap cod)) hb (wirB_t0 P S W t d a) ?_
  have e : List.take (List.length W) (List.drop 0 W) = W := by rw [List.drop_zero, List.take_length]
  exact ⟨fun h => by rw [decide_eq_true_eq] at h; omega, fun _ => ⟨⟨by omega, by omega, by omega⟩, rfl, congrArg (fun X : List F.Msg => ([.blk [.own 1 (List.length P), .own 2 (List.length S), .own 3 (List.length W), .int .i64 t, .int .i64 d, .int .i64 a] 50, .own 2 P 9, .own 2 S 9, .own 6 W 61, .own 6 X 61] : Heap cod)) e⟩⟩



noncomputable def s_wirB : Summ cod := fun args H => match args, H with
  | [.c (.ptr 0 0 0)], [.blk [.own 1 pn, .own 2 sn, .own 3 wn, .int .i64 t, .int .i64 d, .int .i64 a] 50, o1, o2, o3] => (match o1.asOwn 2 9 with | some P => (match o2.asOwn 2 9 with | some S => (match o3.asOwn 6 61 with | some W => .need ((.blk [.own 1 pn, .own 2 sn, .own 3 wn, .int .i64 t, .int .i64 d, .int .i64 a] 50 : HObj cod) = .blk [.own 1 (List.length P), .own 2 (List.length S), .own 3 (List.length W), .int .i64 t, .int .i64 d, .int .i64 a] 50) (.need ((0 < W.length ∧ W.length ≤ 64)) (.ret (.c (.own 4 (List.length W)), [.blk [.own 1 (List.length P), .own 2 (List.length S), .own 3 (List.length W), .int .i64 t, .int .i64 d, .int .i64 a] 50, .own 2 P 9, .own 2 S 9, .own 6 W 61, .own 6 W 61]))) | none => .fail) | none => .fail) | none => .fail)
  | _, _ => .fail


theorem wirB_sound : SoundI Tryz.prog cod 10 s_wirB := tree_soundI (cfg := C_wirA) Tryz.func10 rfl rfl _ fun args H r H' hg b0 hb => by
  unfold s_wirB at hg
  split at hg
  · skip
    split at hg
    · rename_i P hx1
      cases asOwn_spec hx1
      split at hg
      · rename_i S hx2
        cases asOwn_spec hx2
        split at hg
        · rename_i W hx3
          cases asOwn_spec hx3
          obtain ⟨ot0, hg⟩ := hg
          cases ot0
          obtain ⟨hq, hg⟩ := hg
          have q0 := hq
          cases hg
          exact wirB_run _ _ _ _ _ _ b0 hb (by assumption)
        · exact hg.elim
      · exact hg.elim
    · exact hg.elim
  · exact hg.elim

noncomputable def L_wirB : Sums cod := (10, .i s_wirB) :: L_wirA
noncomputable def C_wirB : Cfg cod := mkC L_wirB

theorem L_wirB_ok : Snd Tryz.prog cod L_wirB := .consI wirB_sound L_wirA_ok



def cuts_priA : Cuts := []

theorem priA_t0 (P S : List (List UInt8)) (W : List (Int × Int × Bool × List UInt8)) (t d a : Int) : symI C_wirB cuts_priA Tryz.f7.results.toList ([.blk [.own 1 (List.length P), .own 2 (List.length S), .own 3 (List.length W), .int .i64 t, .int .i64 d, .int .i64 a] 50, .own 2 P 9, .own 2 S 9, .own 6 W 61] : Heap cod) 400 [.code (codeOf Tryz.f7)] ⟨argsS Tryz.f7 [.c (.ptr 0 0 0)], ([.blk [.own 1 (List.length P), .own 2 (List.length S), .own 3 (List.length W), .int .i64 t, .int .i64 d, .int .i64 a] 50, .own 2 P 9, .own 2 S 9, .own 6 W 61] : Heap cod)⟩ =
.ite (decide (List.length P = 0)) (
 .need (List.length P = 0) (
 .ret (.fin (.c (.slc 1 0 0 true)) [.blk [.own 1 (List.length P), .own 2 (List.length S), .own 3 (List.length W), .int .i64 t, .int .i64 d, .int .i64 a] 50, .own 2 P 9, .own 2 S 9, .own 6 W 61]))) (
 .need ((0 + List.length P ≤ List.length P ∧ ((0 : Nat) < List.length P ∧ List.length P ≤ 1000000))) (
 .ret (.fin (.c (.own 4 (List.length P))) [.blk [.own 1 (List.length P), .own 2 (List.length S), .own 3 (List.length W), .int .i64 t, .int .i64 d, .int .i64 a] 50, .own 2 P 9, .own 2 S 9, .own 6 W 61, .own 2 (List.take (List.length P) (List.drop 0 P)) 9]))) := by kernel_rfl



theorem priA_run (P S : List (List UInt8)) (W : List (Int × Int × Bool × List UInt8)) (t d a : Int) (b0 : Base) (hb : b0.n = 4) (h0 : P = []) : Sym.Runs Tryz.prog b0 [.code (codeOf Tryz.f7)] ⟨argsS Tryz.f7 [.c (.ptr 0 0 0)], ([.blk [.own 1 (List.length P), .own 2 (List.length S), .own 3 (List.length W), .int .i64 t, .int .i64 d, .int .i64 a] 50, .own 2 P 9, .own 2 S 9, .own 6 W 61] : Heap cod)⟩ (Sym.EndsI Tryz.prog Tryz.f7 ([.blk [.own 1 (List.length P), .own 2 (List.length S), .own 3 (List.length W), .int .i64 t, .int .i64 d, .int .i64 a] 50, .own 2 P 9, .own 2 S 9, .own 6 W 61] : Heap cod) (.c (.slc 1 0 0 true)) [.blk [.own 1 (List.length P), .own 2 (List.length S), .own 3 (List.length W), .int .i64 t, .int .i64 d, .int .i64 a] 50, .own 2 P 9, .own 2 S 9, .own 6 W 61]) := by
  refine Runs.goI (cfg := C_wirB) L_wirB_ok mixed cuts_priA 400 (H := ([.blk [.own 1 (List.length P), .own 2 (List.length S), .own 3 (List.length W), .int .i64 t, .int .i64 d, .int .i64 a] 50, .own 2 P 9, .own 2 S 9, .own 6 W 61] : Heap cod)) hb (priA_t0 P S W t d a) ?_
  subst h0
  exact ⟨fun _ => ⟨rfl, rfl, rfl⟩, fun h => by simp at h⟩



noncomputable def s_priA : Summ cod := fun args H => match args, H with
  | [.c (.ptr 0 0 0)], [.blk [.own 1 pn, .own 2 sn, .own 3 wn, .int .i64 t, .int .i64 d, .int .i64 a] 50, o1, o2, o3] => (match o1.asOwn 2 9 with | some P => (match o2.asOwn 2 9 with | some S => (match o3.asOwn 6 61 with | some W => .need ((.blk [.own 1 pn, .own 2 sn, .own 3 wn, .int .i64 t, .int .i64 d, .int .i64 a] 50 : HObj cod) = .blk [.own 1 (List.length P), .own 2 (List.length S), .own 3 (List.length W), .int .i64 t, .int .i64 d, .int .i64 a] 50) (.need ((P = [])) (.ret (.c (.slc 1 0 0 true), [.blk [.own 1 (List.length P), .own 2 (List.length S), .own 3 (List.length W), .int .i64 t, .int .i64 d, .int .i64 a] 50, .own 2 P 9, .own 2 S 9, .own 6 W 61]))) | none => .fail) | none => .fail) | none => .fail)
  | _, _ => .fail


theorem priA_sound : SoundI Tryz.prog cod 7 s_priA := tree_soundI (cfg := C_wirB) Tryz.func7 rfl rfl _ fun args H r H' hg b0 hb => by
  unfold s_priA at hg
  split at hg
  · skip
    split at hg
    · rename_i P hx1
      cases asOwn_spec hx1
      split at hg
      · rename_i S hx2
        cases asOwn_spec hx2
        split at hg
        · rename_i W hx3
          cases asOwn_spec hx3
          obtain ⟨ot0, hg⟩ := hg
          cases ot0
          obtain ⟨hq, hg⟩ := hg
          have q0 := hq
          cases hg
          exact priA_run _ _ _ _ _ _ b0 hb (by assumption)
        · exact hg.elim
      · exact hg.elim
    · exact hg.elim
  · exact hg.elim

noncomputable def L_priA : Sums cod := (7, .i s_priA) :: L_wirB
noncomputable def C_priA : Cfg cod := mkC L_priA

theorem L_priA_ok : Snd Tryz.prog cod L_priA := .consI priA_sound L_wirB_ok



def cuts_priB : Cuts := []

theorem priB_t0 (P S : List (List UInt8)) (W : List (Int × Int × Bool × List UInt8)) (t d a : Int) : symI C_priA cuts_priB Tryz.f7.results.toList ([.blk [.own 1 (List.length P), .own 2 (List.length S), .own 3 (List.length W), .int .i64 t, .int .i64 d, .int .i64 a] 50, .own 2 P 9, .own 2 S 9, .own 6 W 61] : Heap cod) 400 [.code (codeOf Tryz.f7)] ⟨argsS Tryz.f7 [.c (.ptr 0 0 0)], ([.blk [.own 1 (List.length P), .own 2 (List.length S), .own 3 (List.length W), .int .i64 t, .int .i64 d, .int .i64 a] 50, .own 2 P 9, .own 2 S 9, .own 6 W 61] : Heap cod)⟩ =
.ite (decide (List.length P = 0)) (
 .need (List.length P = 0) (
 .ret (.fin (.c (.slc 1 0 0 true)) [.blk [.own 1 (List.length P), .own 2 (List.length S), .own 3 (List.length W), .int .i64 t, .int .i64 d, .int .i64 a] 50, .own 2 P 9, .own 2 S 9, .own 6 W 61]))) (
 .need ((0 + List.length P ≤ List.length P ∧ ((0 : Nat) < List.length P ∧ List.length P ≤ 1000000))) (
 .ret (.fin (.c (.own 4 (List.length P))) [.blk [.own 1 (List.length P), .own 2 (List.length S), .own 3 (List.length W), .int .i64 t, .int .i64 d, .int .i64 a] 50, .own 2 P 9, .own 2 S 9, .own 6 W 61, .own 2 (List.take (List.length P) (List.drop 0 P)) 9]))) := by kernel_rfl



theorem priB_run (P S : List (List UInt8)) (W : List (Int × Int × Bool × List UInt8)) (t d a : Int) (b0 : Base) (hb : b0.n = 4) (h0 : 0 < P.length ∧ P.length ≤ 64) : Sym.Runs Tryz.prog b0 [.code (codeOf Tryz.f7)] ⟨argsS Tryz.f7 [.c (.ptr 0 0 0)], ([.blk [.own 1 (List.length P), .own 2 (List.length S), .own 3 (List.length W), .int .i64 t, .int .i64 d, .int .i64 a] 50, .own 2 P 9, .own 2 S 9, .own 6 W 61] : Heap cod)⟩ (Sym.EndsI Tryz.prog Tryz.f7 ([.blk [.own 1 (List.length P), .own 2 (List.length S), .own 3 (List.length W), .int .i64 t, .int .i64 d, .int .i64 a] 50, .own 2 P 9, .own 2 S 9, .own 6 W 61] : Heap cod) (.c (.own 4 (List.length P))) [.blk [.own 1 (List.length P), .own 2 (List.length S), .own 3 (List.length W), .int .i64 t, .int .i64 d, .int .i64 a] 50, .own 2 P 9, .own 2 S 9, .own 6 W 61, .own 2 P 9]) := by
  refine Runs.goI (cfg := C_priA) L_priA_ok mixed cuts_priB 400 (H := ([.blk [.own 1 (List.length P), .own 2 (List.length S), .own 3 (List.length W), .int .i64 t, .int .i64 d, .int .i64 a] 50, .own 2 P 9, .own 2 S 9, .own 6 W 61] : Heap cod)) hb (priB_t0 P S W t d a) ?_
  have e : List.take (List.length P) (List.drop 0 P) = P := by rw [List.drop_zero, List.take_length]
  exact ⟨fun h => by rw [decide_eq_true_eq] at h; omega, fun _ => ⟨⟨by omega, by omega, by omega⟩, rfl, congrArg (fun X : List F.Txt => ([.blk [.own 1 (List.length P), .own 2 (List.length S), .own 3 (List.length W), .int .i64 t, .int .i64 d, .int .i64 a] 50, .own 2 P 9, .own 2 S 9, .own 6 W 61, .own 2 X 9] : Heap cod)) e⟩⟩



noncomputable def s_priB : Summ cod := fun args H => match args, H with
  | [.c (.ptr 0 0 0)], [.blk [.own 1 pn, .own 2 sn, .own 3 wn, .int .i64 t, .int .i64 d, .int .i64 a] 50, o1, o2, o3] => (match o1.asOwn 2 9 with | some P => (match o2.asOwn 2 9 with | some S => (match o3.asOwn 6 61 with | some W => .need ((.blk [.own 1 pn, .own 2 sn, .own 3 wn, .int .i64 t, .int .i64 d, .int .i64 a] 50 : HObj cod) = .blk [.own 1 (List.length P), .own 2 (List.length S), .own 3 (List.length W), .int .i64 t, .int .i64 d, .int .i64 a] 50) (.need ((0 < P.length ∧ P.length ≤ 64)) (.ret (.c (.own 4 (List.length P)), [.blk [.own 1 (List.length P), .own 2 (List.length S), .own 3 (List.length W), .int .i64 t, .int .i64 d, .int .i64 a] 50, .own 2 P 9, .own 2 S 9, .own 6 W 61, .own 2 P 9]))) | none => .fail) | none => .fail) | none => .fail)
  | _, _ => .fail


theorem priB_sound : SoundI Tryz.prog cod 7 s_priB := tree_soundI (cfg := C_priA) Tryz.func7 rfl rfl _ fun args H r H' hg b0 hb => by
  unfold s_priB at hg
  split at hg
  · skip
    split at hg
    · rename_i P hx1
      cases asOwn_spec hx1
      split at hg
      · rename_i S hx2
        cases asOwn_spec hx2
        split at hg
        · rename_i W hx3
          cases asOwn_spec hx3
          obtain ⟨ot0, hg⟩ := hg
          cases ot0
          obtain ⟨hq, hg⟩ := hg
          have q0 := hq
          cases hg
          exact priB_run _ _ _ _ _ _ b0 hb (by assumption)
        · exact hg.elim
      · exact hg.elim
    · exact hg.elim
  · exact hg.elim

noncomputable def L_priB : Sums cod := (7, .i s_priB) :: L_priA
noncomputable def C_priB : Cfg cod := mkC L_priB

theorem L_priB_ok : Snd Tryz.prog cod L_priB := .consI priB_sound L_priA_ok


end
end Go.Proofs.YtiolfkmkbccndaaGreatDoor
