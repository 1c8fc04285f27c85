/- Part of a claim: lemmas on the way to its theorem; each states its own conditions. -/
import Derived.Test.YtiolfkmkbccndaaGreatDoorYa
import Derived.Test.YtiolfkmkbccndaaGreatDoorBd41
import Derived.Test.YtiolfkmkbccndaaGreatDoorBd38
namespace Go.Proofs.YtiolfkmkbccndaaGreatDoor
open Sym Go.RowKit
noncomputable section
set_option maxRecDepth 100000
set_option maxHeartbeats 4000000



namespace F
def sndE (W ml : List Msg) : Int := if 64 < W.length + ml.length then 9 else 0
def sndW (W ml : List Msg) : List Msg := if 64 < W.length + ml.length then W else W ++ ml
def msT (s : PS) (n : Int) : Txt := s.P.getD (n - 1).toNat []
def subN (s : PS) (x : Txt) : Int := if submE s x = 0 then (s.P.length : Int) + 1 else 0
def tkM (s : PS) (k : Int) : Msg := if tkE s k = 0 then s.W.getD k.toNat m0 else m0
def ms1 (m : Msg) : Int := m.1
def ms2 (m : Msg) : Int := m.2.1
def ms3 (m : Msg) : Bool := m.2.2.1
def ms4 (m : Msg) : Txt := m.2.2.2
end F


def cuts_send : Cuts := []

theorem send_t0 (P S : List (List UInt8)) (W : List (Int × Int × Bool × List UInt8)) (t d a : Int) (ml : List (Int × Int × Bool × List UInt8)) : symI C_rcut cuts_send Tryz.f24.results.toList ([.blk [.own 2 (List.length P), .own 3 (List.length S), .own 4 (List.length W), .int .i64 t, .int .i64 d, .int .i64 a] 50, .arr 6 ml 61, .own 2 P 9, .own 2 S 9, .own 6 W 61] : Heap cod) 400 [.code (codeOf Tryz.f24)] ⟨argsS Tryz.f24 [.c (.ptr 0 0 0), .c (.slc 1 0 (List.length ml) true)], ([.blk [.own 2 (List.length P), .own 3 (List.length S), .own 4 (List.length W), .int .i64 t, .int .i64 d, .int .i64 a] 50, .arr 6 ml 61, .own 2 P 9, .own 2 S 9, .own 6 W 61] : Heap cod)⟩ =
.need (i64ok (Int.ofNat (List.length W) + Int.ofNat (List.length ml))) (
 cond (decide (64 < Int.ofNat (List.length W) + Int.ofNat (List.length ml))) (
 .ret (.fin (.c (.int .i64 9)) [.blk [.own 2 (List.length P), .own 3 (List.length S), .own 4 (List.length W), .int .i64 t, .int .i64 d, .int .i64 a] 50, .arr 6 ml 61, .own 2 P 9, .own 2 S 9, .own 6 W 61])) (
 .need (List.length (List.take (List.length ml) (List.drop 0 ml)) = List.length ml) (
 .need (List.length W + List.length (List.take (List.length ml) (List.drop 0 ml)) ≤ 1000000) (
 .ret (.fin (.c (.int .i64 0)) [.blk [.own 2 (List.length P), .own 3 (List.length S), .own 4 (List.length W + List.length (List.take (List.length ml) (List.drop 0 ml))), .int .i64 t, .int .i64 d, .int .i64 a] 50, .arr 6 ml 61, .own 2 P 9, .own 2 S 9, .own 6 (W ++ (List.take (List.length ml) (List.drop 0 ml))) 61]))))) := by kernel_rfl



theorem send_run (P S : List (List UInt8)) (W : List (Int × Int × Bool × List UInt8)) (t d a : Int) (ml : List (Int × Int × Bool × List UInt8)) (b0 : Base) (hb : b0.n = 5) (h0 : W.length ≤ 64 ∧ 0 < ml.length ∧ ml.length ≤ 64) : Sym.Runs Tryz.prog b0 [.code (codeOf Tryz.f24)] ⟨argsS Tryz.f24 [.c (.ptr 0 0 0), .c (.slc 1 0 (List.length ml) true)], ([.blk [.own 2 (List.length P), .own 3 (List.length S), .own 4 (List.length W), .int .i64 t, .int .i64 d, .int .i64 a] 50, .arr 6 ml 61, .own 2 P 9, .own 2 S 9, .own 6 W 61] : Heap cod)⟩ (Sym.EndsI Tryz.prog Tryz.f24 ([.blk [.own 2 (List.length P), .own 3 (List.length S), .own 4 (List.length W), .int .i64 t, .int .i64 d, .int .i64 a] 50, .arr 6 ml 61, .own 2 P 9, .own 2 S 9, .own 6 W 61] : Heap cod) (.c (.int .i64 (F.sndE W ml))) [.blk [.own 2 (List.length P), .own 3 (List.length S), .own 4 (List.length (F.sndW W ml)), .int .i64 t, .int .i64 d, .int .i64 a] 50, .arr 6 ml 61, .own 2 P 9, .own 2 S 9, .own 6 (F.sndW W ml) 61]) := by
  refine Runs.goI (cfg := C_rcut) L_rcut_ok mixed cuts_send 400 (H := ([.blk [.own 2 (List.length P), .own 3 (List.length S), .own 4 (List.length W), .int .i64 t, .int .i64 d, .int .i64 a] 50, .arr 6 ml 61, .own 2 P 9, .own 2 S 9, .own 6 W 61] : Heap cod)) hb (send_t0 P S W t d a ml) ?_
  obtain ⟨w1, m1, m2⟩ := h0
  have e : List.take (List.length ml) (List.drop 0 ml) = ml := by rw [List.drop_zero, List.take_length]
  rw [e]
  simp only [T.wp, T.wp_cond, Aft, Int.ofNat_eq_natCast, decide_eq_true_eq, true_and]
  refine ⟨by unfold i64ok; omega, ?_⟩
  by_cases c : 64 < W.length + ml.length
  · have e1 : F.sndE W ml = 9 := if_pos c
    have e2 : F.sndW W ml = W := if_pos c
    rw [e1, e2]
    exact ite_yes (by omega) ⟨rfl, rfl⟩
  · have e1 : F.sndE W ml = 0 := if_neg c
    have e2 : F.sndW W ml = W ++ ml := if_neg c
    rw [e1, e2, List.length_append]
    exact ite_no (by omega) ⟨by omega, rfl, rfl⟩



noncomputable def s_send : Summ cod := fun args H => match args, H with
  | [.c (.ptr 0 0 0), .c (.slc 1 0 q true)], [.blk [.own 2 pn, .own 3 sn, .own 4 wn, .int .i64 t, .int .i64 d, .int .i64 a] 50, o1, o2, o3, o4] => (match o1.asArr 6 61 with | some ml => (match o2.asOwn 2 9 with | some P => (match o3.asOwn 2 9 with | some S => (match o4.asOwn 6 61 with | some W => .need ((.blk [.own 2 pn, .own 3 sn, .own 4 wn, .int .i64 t, .int .i64 d, .int .i64 a] 50 : HObj cod) = .blk [.own 2 (List.length P), .own 3 (List.length S), .own 4 (List.length W), .int .i64 t, .int .i64 d, .int .i64 a] 50) (.need ((.c (.slc 1 0 q true) : SV) = .c (.slc 1 0 (List.length ml) true)) (.need ((W.length ≤ 64 ∧ 0 < ml.length ∧ ml.length ≤ 64)) (.ret (.c (.int .i64 (F.sndE W ml)), [.blk [.own 2 (List.length P), .own 3 (List.length S), .own 4 (List.length (F.sndW W ml)), .int .i64 t, .int .i64 d, .int .i64 a] 50, .arr 6 ml 61, .own 2 P 9, .own 2 S 9, .own 6 (F.sndW W ml) 61])))) | none => .fail) | none => .fail) | none => .fail) | none => .fail)
  | _, _ => .fail


theorem send_sound : SoundI Tryz.prog cod 24 s_send := tree_soundI (cfg := C_rcut) Tryz.func24 rfl rfl _ fun args H r H' hg b0 hb => by
  unfold s_send at hg
  split at hg
  · skip
    split at hg
    · rename_i ml hx1
      cases asArr_spec hx1
      split at hg
      · rename_i P hx2
        cases asOwn_spec hx2
        split at hg
        · rename_i S hx3
          cases asOwn_spec hx3
          split at hg
          · rename_i W hx4
            cases asOwn_spec hx4
            obtain ⟨ot0, hg⟩ := hg
            cases ot0
            obtain ⟨tt, hg⟩ := hg
            have t0 := tt
            cases t0
            obtain ⟨hq, hg⟩ := hg
            have q0 := hq
            cases hg
            exact send_run _ _ _ _ _ _ _ b0 hb (by assumption)
          · exact hg.elim
        · exact hg.elim
      · exact hg.elim
    · exact hg.elim
  · exact hg.elim

noncomputable def L_send : Sums cod := (24, .i s_send) :: L_rcut
noncomputable def C_send : Cfg cod := mkC L_send

theorem L_send_ok : Snd Tryz.prog cod L_send := .consI send_sound L_rcut_ok



def cuts_mesg : Cuts := []

theorem mesg_t0 (P S : List (List UInt8)) (W : List (Int × Int × Bool × List UInt8)) (t d a : Int) (n : Int) : symI C_send cuts_mesg Tryz.f25.results.toList ([.blk [.own 1 (List.length P), .own 2 (List.length S), .own 3 (List.length W), .int .i64 t, .int .i64 d, .int .i64 a] 50, .own 2 P 9, .own 2 S 9, .own 6 W 61] : Heap cod) 400 [.code (codeOf Tryz.f25)] ⟨argsS Tryz.f25 [.c (.ptr 0 0 0), .c (.int .i64 n)], ([.blk [.own 1 (List.length P), .own 2 (List.length S), .own 3 (List.length W), .int .i64 t, .int .i64 d, .int .i64 a] 50, .own 2 P 9, .own 2 S 9, .own 6 W 61] : Heap cod)⟩ =
.need (i64ok (n - 1)) (
.need (((0 : Int) ≤ n - 1 ∧ n - 1 < Int.ofNat (List.length P))) (
.need (0 + Int.toNat (n - 1) < List.length P) (
.ret (.fin (.agg [.int .i64 t, .int .i64 n, .bool false, .str (List.getD P (0 + Int.toNat (n - 1)) (cod 2).d)]) [.blk [.own 1 (List.length P), .own 2 (List.length S), .own 3 (List.length W), .int .i64 t, .int .i64 d, .int .i64 a] 50, .own 2 P 9, .own 2 S 9, .own 6 W 61])))) := by kernel_rfl



theorem mesg_run (P S : List (List UInt8)) (W : List (Int × Int × Bool × List UInt8)) (t d a : Int) (n : Int) (b0 : Base) (hb : b0.n = 4) (h0 : 1 ≤ n ∧ n ≤ P.length ∧ P.length ≤ 64) : Sym.Runs Tryz.prog b0 [.code (codeOf Tryz.f25)] ⟨argsS Tryz.f25 [.c (.ptr 0 0 0), .c (.int .i64 n)], ([.blk [.own 1 (List.length P), .own 2 (List.length S), .own 3 (List.length W), .int .i64 t, .int .i64 d, .int .i64 a] 50, .own 2 P 9, .own 2 S 9, .own 6 W 61] : Heap cod)⟩ (Sym.EndsI Tryz.prog Tryz.f25 ([.blk [.own 1 (List.length P), .own 2 (List.length S), .own 3 (List.length W), .int .i64 t, .int .i64 d, .int .i64 a] 50, .own 2 P 9, .own 2 S 9, .own 6 W 61] : Heap cod) (.agg [.int .i64 t, .int .i64 n, .bool false, .str (F.msT (F.PS.mk P S W t d a) n)]) [.blk [.own 1 (List.length P), .own 2 (List.length S), .own 3 (List.length W), .int .i64 t, .int .i64 d, .int .i64 a] 50, .own 2 P 9, .own 2 S 9, .own 6 W 61]) := by
  refine Runs.goI (cfg := C_send) L_send_ok mixed cuts_mesg 400 (H := ([.blk [.own 1 (List.length P), .own 2 (List.length S), .own 3 (List.length W), .int .i64 t, .int .i64 d, .int .i64 a] 50, .own 2 P 9, .own 2 S 9, .own 6 W 61] : Heap cod)) hb (mesg_t0 P S W t d a n) ?_
  obtain ⟨n1, n2, n3⟩ := h0
  have e : F.msT (F.PS.mk P S W t d a) n = List.getD P (0 + Int.toNat (n - 1)) (cod 2).d := by rw [Nat.zero_add]; rfl
  rw [e]
  simp only [T.wp, Aft, Int.ofNat_eq_natCast, and_true, Nat.zero_add]
  exact ⟨by unfold i64ok; omega, ⟨by omega, by omega⟩, by omega⟩



noncomputable def s_mesg : Summ cod := fun args H => match args, H with
  | [.c (.ptr 0 0 0), .c (.int .i64 n)], [.blk [.own 1 pn, .own 2 sn, .own 3 wn, .int .i64 t, .int .i64 d, .int .i64 a] 50, o1, o2, o3] => (match o1.asOwn 2 9 with | some P => (match o2.asOwn 2 9 with | some S => (match o3.asOwn 6 61 with | some W => .need ((.blk [.own 1 pn, .own 2 sn, .own 3 wn, .int .i64 t, .int .i64 d, .int .i64 a] 50 : HObj cod) = .blk [.own 1 (List.length P), .own 2 (List.length S), .own 3 (List.length W), .int .i64 t, .int .i64 d, .int .i64 a] 50) (.need ((1 ≤ n ∧ n ≤ P.length ∧ P.length ≤ 64)) (.ret (.agg [.int .i64 t, .int .i64 n, .bool false, .str (F.msT (F.PS.mk P S W t d a) n)], [.blk [.own 1 (List.length P), .own 2 (List.length S), .own 3 (List.length W), .int .i64 t, .int .i64 d, .int .i64 a] 50, .own 2 P 9, .own 2 S 9, .own 6 W 61]))) | none => .fail) | none => .fail) | none => .fail)
  | _, _ => .fail


theorem mesg_sound : SoundI Tryz.prog cod 25 s_mesg := tree_soundI (cfg := C_send) Tryz.func25 rfl rfl _ fun args H r H' hg b0 hb => by
  unfold s_mesg at hg
  split at hg
  · skip
    split at hg
    · rename_i P hx1
      cases asOwn_spec hx1
      split at hg
      · rename_i S hx2
        cases asOwn_spec hx2
        split at hg
        · rename_i W hx3
          cases asOwn_spec hx3
          obtain ⟨ot0, hg⟩ := hg
          cases ot0
          obtain ⟨hq, hg⟩ := hg
          have q0 := hq
          cases hg
          exact mesg_run _ _ _ _ _ _ _ b0 hb (by assumption)
        · exact hg.elim
      · exact hg.elim
    · exact hg.elim
  · exact hg.elim

noncomputable def L_mesg : Sums cod := (25, .i s_mesg) :: L_send
noncomputable def C_mesg : Cfg cod := mkC L_mesg

theorem L_mesg_ok : Snd Tryz.prog cod L_mesg := .consI mesg_sound L_send_ok



def cuts_subm : Cuts := []

theorem subm_t0 (P S : List (List UInt8)) (W : List (Int × Int × Bool × List UInt8)) (t d a : Int) (x : List UInt8) : symI C_mesg cuts_subm Tryz.f11.results.toList ([.blk [.own 1 (List.length P), .own 2 (List.length S), .own 3 (List.length W), .int .i64 t, .int .i64 d, .int .i64 a] 50, .own 2 P 9, .own 2 S 9, .own 6 W 61] : Heap cod) 400 [.code (codeOf Tryz.f11)] ⟨argsS Tryz.f11 [.c (.ptr 0 0 0), .c (.str x)], ([.blk [.own 1 (List.length P), .own 2 (List.length S), .own 3 (List.length W), .int .i64 t, .int .i64 d, .int .i64 a] 50, .own 2 P 9, .own 2 S 9, .own 6 W 61] : Heap cod)⟩ =
 cond (decide (120 < Int.ofNat (List.length x))) (
 .ret (.fin (.tup [.c (.int .i64 0), .c (.int .i64 2)]) [.blk [.own 1 (List.length P), .own 2 (List.length S), .own 3 (List.length W), .int .i64 t, .int .i64 d, .int .i64 a] 50, .own 2 P 9, .own 2 S 9, .own 6 W 61])) (
 cond (decide (Int.ofNat (List.length P) = 64)) (
  .ret (.fin (.tup [.c (.int .i64 0), .c (.int .i64 9)]) [.blk [.own 1 (List.length P), .own 2 (List.length S), .own 3 (List.length W), .int .i64 t, .int .i64 d, .int .i64 a] 50, .own 2 P 9, .own 2 S 9, .own 6 W 61])) (
  cond (decide (Int.ofNat (List.length W) = 64)) (
   .ret (.fin (.tup [.c (.int .i64 0), .c (.int .i64 9)]) [.blk [.own 1 (List.length P), .own 2 (List.length S), .own 3 (List.length W), .int .i64 t, .int .i64 d, .int .i64 a] 50, .own 2 P 9, .own 2 S 9, .own 6 W 61])) (
   .need (1 = 1) (
   .need (List.length P + 1 ≤ 1000000) (
   .need ((HObj.blk (cod := cod) [Cell.own 1 (List.length P + 1), Cell.own 2 (List.length S), Cell.own 3 (List.length W), Cell.int IntKind.i64 t,       Cell.int IntKind.i64 d, Cell.int IntKind.i64 a] 50 : HObj cod) =   HObj.blk     [Cell.own 1 (List.length (P ++ [x])), Cell.own 2 (List.length S), Cell.own 3 (List.length W),       Cell.int IntKind.i64 t, Cell.int IntKind.i64 d, Cell.int IntKind.i64 a]     50) (
   .need (((1 : Int) ≤ Int.ofNat (List.length P + 1) ∧ (Int.ofNat (List.length P + 1) ≤ Int.ofNat (List.length (P ++ [x])) ∧ List.length (P ++ [x]) ≤ 64))) (
   .need (HObj.blk (cod := cod) [Cell.own 2 (List.length (P ++ [x])), Cell.own 3 (List.length S), Cell.own 4 (List.length W),       Cell.int IntKind.i64 t, Cell.int IntKind.i64 d, Cell.int IntKind.i64 a]     50 =   HObj.blk     [Cell.own 2 (List.length (P ++ [x])), Cell.own 3 (List.length S), Cell.own 4 (List.length W),       Cell.int IntKind.i64 t, Cell.int IntKind.i64 d, Cell.int IntKind.i64 a]     50) (
   .need ((SV.c (Cell.slc 1 0 1 true) : SV) = SV.c (Cell.slc 1 0 1 true)) (
   .need ((List.length W ≤ 64 ∧ ((0 : Nat) < 1 ∧ (1 : Nat) ≤ 64))) (
   .ret (.fin (.tup [.c (.int .i64 (Int.ofNat (List.length P + 1))), .c (.int .i64 (F.sndE W   [(t, Int.ofNat (List.length P + 1), false,       F.msT { P := P ++ [x], S := S, W := W, t := t, d := d, a := a } (Int.ofNat (List.length P + 1)))]))]) [.blk [.own 1 (List.length (P ++ [x])), .own 2 (List.length S), .own 3 (List.length   (F.sndW W     [(t, Int.ofNat (List.length P + 1), false,         F.msT { P := P ++ [x], S := S, W := W, t := t, d := d, a := a } (Int.ofNat (List.length P + 1)))])), .int .i64 t, .int .i64 d, .int .i64 a] 50, .own 2 (P ++ [x]) 9, .own 2 S 9, .own 6 (F.sndW W   [(t, Int.ofNat (List.length P + 1), false,       F.msT { P := P ++ [x], S := S, W := W, t := t, d := d, a := a } (Int.ofNat (List.length P + 1)))]) 61]))))))))))) := by kernel_rfl



theorem subm_run (P S : List (List UInt8)) (W : List (Int × Int × Bool × List UInt8)) (t d a : Int) (x : List UInt8) (b0 : Base) (hb : b0.n = 4) (h0 : P.length ≤ 64 ∧ W.length ≤ 64 ∧ x.length ≤ 1000000) : Sym.Runs Tryz.prog b0 [.code (codeOf Tryz.f11)] ⟨argsS Tryz.f11 [.c (.ptr 0 0 0), .c (.str x)], ([.blk [.own 1 (List.length P), .own 2 (List.length S), .own 3 (List.length W), .int .i64 t, .int .i64 d, .int .i64 a] 50, .own 2 P 9, .own 2 S 9, .own 6 W 61] : Heap cod)⟩ (Sym.EndsI Tryz.prog Tryz.f11 ([.blk [.own 1 (List.length P), .own 2 (List.length S), .own 3 (List.length W), .int .i64 t, .int .i64 d, .int .i64 a] 50, .own 2 P 9, .own 2 S 9, .own 6 W 61] : Heap cod) (.tup [.c (.int .i64 (F.subN (F.PS.mk P S W t d a) x)), .c (.int .i64 (F.submE (F.PS.mk P S W t d a) x))]) [.blk [.own 1 (List.length (F.subm (F.PS.mk P S W t d a) x).P), .own 2 (List.length S), .own 3 (List.length (F.subm (F.PS.mk P S W t d a) x).W), .int .i64 t, .int .i64 d, .int .i64 a] 50, .own 2 (F.subm (F.PS.mk P S W t d a) x).P 9, .own 2 S 9, .own 6 (F.subm (F.PS.mk P S W t d a) x).W 61]) := by
  refine Runs.goI (cfg := C_mesg) L_mesg_ok mixed cuts_subm 400 (H := ([.blk [.own 1 (List.length P), .own 2 (List.length S), .own 3 (List.length W), .int .i64 t, .int .i64 d, .int .i64 a] 50, .own 2 P 9, .own 2 S 9, .own 6 W 61] : Heap cod)) hb (subm_t0 P S W t d a x) ?_
  obtain ⟨p1, w1, x1⟩ := h0
  have bad : F.submE (F.PS.mk P S W t d a) x ≠ 0 → F.subN (F.PS.mk P S W t d a) x = 0 ∧ F.subm (F.PS.mk P S W t d a) x = (F.PS.mk P S W t d a) := fun h => ⟨if_neg h, if_neg h⟩
  by_cases c1 : 120 < x.length
  · have e1 : F.submE (F.PS.mk P S W t d a) x = 2 := if_pos c1
    obtain ⟨e2, e3⟩ := bad (by rw [e1]; decide)
    rw [e1, e2, e3]
    simp only [T.wp, T.wp_cond, Aft, Int.ofNat_eq_natCast, decide_eq_true_eq, and_true, true_and]
    exact ite_yes (by omega) (by first | trivial | exact ⟨rfl, rfl⟩)
  · by_cases c2 : P.length = 64 ∨ W.length = 64
    · have e1 : F.submE (F.PS.mk P S W t d a) x = 9 := by unfold F.submE; rw [if_neg c1, if_pos c2]
      obtain ⟨e2, e3⟩ := bad (by rw [e1]; decide)
      rw [e1, e2, e3]
      simp only [T.wp, T.wp_cond, Aft, Int.ofNat_eq_natCast, decide_eq_true_eq, and_true, true_and]
      refine ite_no (by omega) ?_
      by_cases c3 : P.length = 64
      · exact ite_yes (by omega) (by first | trivial | exact ⟨rfl, rfl⟩)
      · exact ite_no (by omega) (ite_yes (by omega) (by first | trivial | exact ⟨rfl, rfl⟩))
    · have e1 : F.submE (F.PS.mk P S W t d a) x = 0 := by unfold F.submE; rw [if_neg c1, if_neg c2]
      have e2 : F.subN (F.PS.mk P S W t d a) x = (P.length : Int) + 1 := if_pos e1
      have e3 : F.subm (F.PS.mk P S W t d a) x = { (F.PS.mk P S W t d a) with P := P ++ [x], W := W ++ [(t, (P.length : Int) + 1, false, x)] } := if_pos e1
      have hl : (P ++ [x]).length = P.length + 1 := by rw [List.length_append]; rfl
      have em : F.msT { P := P ++ [x], S := S, W := W, t := t, d := d, a := a } (Int.ofNat (List.length P + 1)) = x := by
        show (P ++ [x]).getD ((Int.ofNat (List.length P + 1)) - 1).toNat [] = x
        rw [show ((Int.ofNat (List.length P + 1)) - 1).toNat = P.length by simp only [Int.ofNat_eq_natCast]; omega, List.getD_eq_getElem?_getD, List.getElem?_append_right (Nat.le_refl _)]
        simp
      have es : ∀ m, F.sndE W [m] = 0 ∧ F.sndW W [m] = W ++ [m] := fun m => ⟨if_neg (by simp only [List.length_singleton]; omega), if_neg (by simp only [List.length_singleton]; omega)⟩
      rw [e1, e2, e3, em, (es _).1, (es _).2]
      simp only [T.wp, T.wp_cond, Aft, Int.ofNat_eq_natCast, decide_eq_true_eq, true_and]
      refine ite_no (by omega) (ite_no (by omega) (ite_no (by omega) ?_))
      exact ⟨by omega, by rw [hl], ⟨by omega, by rw [hl]; omega, by omega⟩, ⟨by omega, by omega, by omega⟩, rfl, rfl⟩



noncomputable def s_subm : Summ cod := fun args H => match args, H with
  | [.c (.ptr 0 0 0), .c (.str x)], [.blk [.own 1 pn, .own 2 sn, .own 3 wn, .int .i64 t, .int .i64 d, .int .i64 a] 50, o1, o2, o3] => (match o1.asOwn 2 9 with | some P => (match o2.asOwn 2 9 with | some S => (match o3.asOwn 6 61 with | some W => .need ((.blk [.own 1 pn, .own 2 sn, .own 3 wn, .int .i64 t, .int .i64 d, .int .i64 a] 50 : HObj cod) = .blk [.own 1 (List.length P), .own 2 (List.length S), .own 3 (List.length W), .int .i64 t, .int .i64 d, .int .i64 a] 50) (.need ((P.length ≤ 64 ∧ W.length ≤ 64 ∧ x.length ≤ 1000000)) (.ret (.tup [.c (.int .i64 (F.subN (F.PS.mk P S W t d a) x)), .c (.int .i64 (F.submE (F.PS.mk P S W t d a) x))], [.blk [.own 1 (List.length (F.subm (F.PS.mk P S W t d a) x).P), .own 2 (List.length S), .own 3 (List.length (F.subm (F.PS.mk P S W t d a) x).W), .int .i64 t, .int .i64 d, .int .i64 a] 50, .own 2 (F.subm (F.PS.mk P S W t d a) x).P 9, .own 2 S 9, .own 6 (F.subm (F.PS.mk P S W t d a) x).W 61]))) | none => .fail) | none => .fail) | none => .fail)
  | _, _ => .fail


theorem subm_sound : SoundI Tryz.prog cod 11 s_subm := tree_soundI (cfg := C_mesg) Tryz.func11 rfl rfl _ fun args H r H' hg b0 hb => by
  unfold s_subm at hg
  split at hg
  · skip
    split at hg
    · rename_i P hx1
      cases asOwn_spec hx1
      split at hg
      · rename_i S hx2
        cases asOwn_spec hx2
        split at hg
        · rename_i W hx3
          cases asOwn_spec hx3
          obtain ⟨ot0, hg⟩ := hg
          cases ot0
          obtain ⟨hq, hg⟩ := hg
          have q0 := hq
          cases hg
          exact subm_run _ _ _ _ _ _ _ b0 hb (by assumption)
        · exact hg.elim
      · exact hg.elim
    · exact hg.elim
  · exact hg.elim

noncomputable def L_subm : Sums cod := (11, .i s_subm) :: L_mesg
noncomputable def C_subm : Cfg cod := mkC L_subm

theorem L_subm_ok : Snd Tryz.prog cod L_subm := .consI subm_sound L_mesg_ok



def cuts_take : Cuts := []

theorem take_t0 (P S : List (List UInt8)) (W : List (Int × Int × Bool × List UInt8)) (t d a : Int) (k : Int) : symI C_subm cuts_take Tryz.f26.results.toList ([.blk [.own 1 (List.length P), .own 2 (List.length S), .own 3 (List.length W), .int .i64 t, .int .i64 d, .int .i64 a] 50, .own 2 P 9, .own 2 S 9, .own 6 W 61] : Heap cod) 400 [.code (codeOf Tryz.f26)] ⟨argsS Tryz.f26 [.c (.ptr 0 0 0), .c (.int .i64 k)], ([.blk [.own 1 (List.length P), .own 2 (List.length S), .own 3 (List.length W), .int .i64 t, .int .i64 d, .int .i64 a] 50, .own 2 P 9, .own 2 S 9, .own 6 W 61] : Heap cod)⟩ =
 cond (decide (k < 0)) (
 .ret (.fin (.tup [.agg [.int .i64 0, .int .i64 0, .bool false, .str []], .c (.int .i64 8)]) [.blk [.own 1 (List.length P), .own 2 (List.length S), .own 3 (List.length W), .int .i64 t, .int .i64 d, .int .i64 a] 50, .own 2 P 9, .own 2 S 9, .own 6 W 61])) (
 cond (decide (Int.ofNat (List.length W) ≤ k)) (
  .ret (.fin (.tup [.agg [.int .i64 0, .int .i64 0, .bool false, .str []], .c (.int .i64 8)]) [.blk [.own 1 (List.length P), .own 2 (List.length S), .own 3 (List.length W), .int .i64 t, .int .i64 d, .int .i64 a] 50, .own 2 P 9, .own 2 S 9, .own 6 W 61])) (
  .need (((0 : Int) ≤ k ∧ k < Int.ofNat (List.length W))) (
  .need (0 + Int.toNat k < List.length W) (
  .need (i64ok (k + 1)) (
  .need (((0 : Int) ≤ k ∧ (k < Int.ofNat (List.length W) ∧ k + 1 = k + 1))) (
  .ret (.fin (.tup [.agg [.int .i64 ((List.getD W (0 + Int.toNat k) (cod 6).d).1), .int .i64 ((List.getD W (0 + Int.toNat k) (cod 6).d).2.1), .bool ((List.getD W (0 + Int.toNat k) (cod 6).d).2.2.1), .str ((List.getD W (0 + Int.toNat k) (cod 6).d).2.2.2)], .c (.int .i64 0)]) [.blk [.own 1 (List.length P), .own 2 (List.length S), .own 3 (List.length W - 1), .int .i64 t, .int .i64 d, .int .i64 a] 50, .own 2 P 9, .own 2 S 9, .own 6 (List.eraseIdx W (Int.toNat k)) 61]))))))) := by kernel_rfl



theorem take_run (P S : List (List UInt8)) (W : List (Int × Int × Bool × List UInt8)) (t d a : Int) (k : Int) (b0 : Base) (hb : b0.n = 4) (h0 : W.length ≤ 64) : Sym.Runs Tryz.prog b0 [.code (codeOf Tryz.f26)] ⟨argsS Tryz.f26 [.c (.ptr 0 0 0), .c (.int .i64 k)], ([.blk [.own 1 (List.length P), .own 2 (List.length S), .own 3 (List.length W), .int .i64 t, .int .i64 d, .int .i64 a] 50, .own 2 P 9, .own 2 S 9, .own 6 W 61] : Heap cod)⟩ (Sym.EndsI Tryz.prog Tryz.f26 ([.blk [.own 1 (List.length P), .own 2 (List.length S), .own 3 (List.length W), .int .i64 t, .int .i64 d, .int .i64 a] 50, .own 2 P 9, .own 2 S 9, .own 6 W 61] : Heap cod) (.tup [.agg [.int .i64 (F.ms1 (F.tkM (F.PS.mk P S W t d a) k)), .int .i64 (F.ms2 (F.tkM (F.PS.mk P S W t d a) k)), .bool (F.ms3 (F.tkM (F.PS.mk P S W t d a) k)), .str (F.ms4 (F.tkM (F.PS.mk P S W t d a) k))], .c (.int .i64 (F.tkE (F.PS.mk P S W t d a) k))]) [.blk [.own 1 (List.length P), .own 2 (List.length S), .own 3 (List.length (F.drp (F.PS.mk P S W t d a) k).W), .int .i64 t, .int .i64 d, .int .i64 a] 50, .own 2 P 9, .own 2 S 9, .own 6 (F.drp (F.PS.mk P S W t d a) k).W 61]) := by
  refine Runs.goI (cfg := C_subm) L_subm_ok mixed cuts_take 400 (H := ([.blk [.own 1 (List.length P), .own 2 (List.length S), .own 3 (List.length W), .int .i64 t, .int .i64 d, .int .i64 a] 50, .own 2 P 9, .own 2 S 9, .own 6 W 61] : Heap cod)) hb (take_t0 P S W t d a k) ?_
  have dd : (cod 6).d = F.m0 := rfl
  simp only [T.wp, T.wp_cond, Aft, Int.ofNat_eq_natCast, decide_eq_true_eq, and_true, Nat.zero_add, dd]
  by_cases c : k < 0 ∨ (W.length : Int) ≤ k
  · have e1 : F.tkE (F.PS.mk P S W t d a) k = 8 := if_pos c
    have e2 : F.drp (F.PS.mk P S W t d a) k = (F.PS.mk P S W t d a) := if_neg (by rw [e1]; decide)
    have e3 : F.tkM (F.PS.mk P S W t d a) k = F.m0 := if_neg (by rw [e1]; decide)
    rw [e1, e2, e3]
    by_cases c1 : k < 0
    · exact ite_yes c1 ⟨rfl, rfl⟩
    · exact ite_no c1 (ite_yes (by omega) ⟨rfl, rfl⟩)
  · have e1 : F.tkE (F.PS.mk P S W t d a) k = 0 := if_neg c
    have e2 : F.drp (F.PS.mk P S W t d a) k = { (F.PS.mk P S W t d a) with W := W.eraseIdx k.toNat } := if_pos e1
    have e3 : F.tkM (F.PS.mk P S W t d a) k = W.getD k.toNat F.m0 := if_pos e1
    rw [e1, e2, e3]
    have e4 : (W.eraseIdx k.toNat).length = W.length - 1 := by rw [List.length_eraseIdx, if_pos (by omega)]
    refine ite_no (by omega) (ite_no (by omega) ⟨⟨by omega, by omega⟩, by omega, by unfold i64ok; omega, ⟨by omega, by omega⟩, ?_⟩)
    rw [← e4]
    exact ⟨rfl, rfl⟩



noncomputable def s_take : Summ cod := fun args H => match args, H with
  | [.c (.ptr 0 0 0), .c (.int .i64 k)], [.blk [.own 1 pn, .own 2 sn, .own 3 wn, .int .i64 t, .int .i64 d, .int .i64 a] 50, o1, o2, o3] => (match o1.asOwn 2 9 with | some P => (match o2.asOwn 2 9 with | some S => (match o3.asOwn 6 61 with | some W => .need ((.blk [.own 1 pn, .own 2 sn, .own 3 wn, .int .i64 t, .int .i64 d, .int .i64 a] 50 : HObj cod) = .blk [.own 1 (List.length P), .own 2 (List.length S), .own 3 (List.length W), .int .i64 t, .int .i64 d, .int .i64 a] 50) (.need ((W.length ≤ 64)) (.ret (.tup [.agg [.int .i64 (F.ms1 (F.tkM (F.PS.mk P S W t d a) k)), .int .i64 (F.ms2 (F.tkM (F.PS.mk P S W t d a) k)), .bool (F.ms3 (F.tkM (F.PS.mk P S W t d a) k)), .str (F.ms4 (F.tkM (F.PS.mk P S W t d a) k))], .c (.int .i64 (F.tkE (F.PS.mk P S W t d a) k))], [.blk [.own 1 (List.length P), .own 2 (List.length S), .own 3 (List.length (F.drp (F.PS.mk P S W t d a) k).W), .int .i64 t, .int .i64 d, .int .i64 a] 50, .own 2 P 9, .own 2 S 9, .own 6 (F.drp (F.PS.mk P S W t d a) k).W 61]))) | none => .fail) | none => .fail) | none => .fail)
  | _, _ => .fail


theorem take_sound : SoundI Tryz.prog cod 26 s_take := tree_soundI (cfg := C_subm) Tryz.func26 rfl rfl _ fun args H r H' hg b0 hb => by
  unfold s_take at hg
  split at hg
  · skip
    split at hg
    · rename_i P hx1
      cases asOwn_spec hx1
      split at hg
      · rename_i S hx2
        cases asOwn_spec hx2
        split at hg
        · rename_i W hx3
          cases asOwn_spec hx3
          obtain ⟨ot0, hg⟩ := hg
          cases ot0
          obtain ⟨hq, hg⟩ := hg
          have q0 := hq
          cases hg
          exact take_run _ _ _ _ _ _ _ b0 hb (by assumption)
        · exact hg.elim
      · exact hg.elim
    · exact hg.elim
  · exact hg.elim

noncomputable def L_take : Sums cod := (26, .i s_take) :: L_subm
noncomputable def C_take : Cfg cod := mkC L_take

theorem L_take_ok : Snd Tryz.prog cod L_take := .consI take_sound L_subm_ok



def cuts_drop : Cuts := []

theorem drop_t0 (P S : List (List UInt8)) (W : List (Int × Int × Bool × List UInt8)) (t d a : Int) (k : Int) : symI C_take cuts_drop Tryz.f13.results.toList ([.blk [.own 1 (List.length P), .own 2 (List.length S), .own 3 (List.length W), .int .i64 t, .int .i64 d, .int .i64 a] 50, .own 2 P 9, .own 2 S 9, .own 6 W 61] : Heap cod) 400 [.code (codeOf Tryz.f13)] ⟨argsS Tryz.f13 [.c (.ptr 0 0 0), .c (.int .i64 k)], ([.blk [.own 1 (List.length P), .own 2 (List.length S), .own 3 (List.length W), .int .i64 t, .int .i64 d, .int .i64 a] 50, .own 2 P 9, .own 2 S 9, .own 6 W 61] : Heap cod)⟩ =
.need ((HObj.blk (cod := cod) [Cell.own 1 (List.length P), Cell.own 2 (List.length S), Cell.own 3 (List.length W), Cell.int IntKind.i64 t,       Cell.int IntKind.i64 d, Cell.int IntKind.i64 a] 50 : HObj cod) =   HObj.blk     [Cell.own 1 (List.length P), Cell.own 2 (List.length S), Cell.own 3 (List.length W), Cell.int IntKind.i64 t,       Cell.int IntKind.i64 d, Cell.int IntKind.i64 a]     50) (
.need (List.length W ≤ 64) (
.ret (.fin (.c (.int .i64 (F.tkE { P := P, S := S, W := W, t := t, d := d, a := a } k))) [.blk [.own 1 (List.length P), .own 2 (List.length S), .own 3 (List.length (F.drp { P := P, S := S, W := W, t := t, d := d, a := a } k).W), .int .i64 t, .int .i64 d, .int .i64 a] 50, .own 2 P 9, .own 2 S 9, .own 6 ((F.drp { P := P, S := S, W := W, t := t, d := d, a := a } k).W) 61]))) := by kernel_rfl



theorem drop_run (P S : List (List UInt8)) (W : List (Int × Int × Bool × List UInt8)) (t d a : Int) (k : Int) (b0 : Base) (hb : b0.n = 4) (h0 : W.length ≤ 64) : Sym.Runs Tryz.prog b0 [.code (codeOf Tryz.f13)] ⟨argsS Tryz.f13 [.c (.ptr 0 0 0), .c (.int .i64 k)], ([.blk [.own 1 (List.length P), .own 2 (List.length S), .own 3 (List.length W), .int .i64 t, .int .i64 d, .int .i64 a] 50, .own 2 P 9, .own 2 S 9, .own 6 W 61] : Heap cod)⟩ (Sym.EndsI Tryz.prog Tryz.f13 ([.blk [.own 1 (List.length P), .own 2 (List.length S), .own 3 (List.length W), .int .i64 t, .int .i64 d, .int .i64 a] 50, .own 2 P 9, .own 2 S 9, .own 6 W 61] : Heap cod) (.c (.int .i64 (F.tkE (F.PS.mk P S W t d a) k))) [.blk [.own 1 (List.length P), .own 2 (List.length S), .own 3 (List.length (F.drp (F.PS.mk P S W t d a) k).W), .int .i64 t, .int .i64 d, .int .i64 a] 50, .own 2 P 9, .own 2 S 9, .own 6 (F.drp (F.PS.mk P S W t d a) k).W 61]) := by
  refine Runs.goI (cfg := C_take) L_take_ok mixed cuts_drop 400 (H := ([.blk [.own 1 (List.length P), .own 2 (List.length S), .own 3 (List.length W), .int .i64 t, .int .i64 d, .int .i64 a] 50, .own 2 P 9, .own 2 S 9, .own 6 W 61] : Heap cod)) hb (drop_t0 P S W t d a k) ?_
  exact ⟨rfl, h0, rfl, rfl⟩



noncomputable def s_drop : Summ cod := fun args H => match args, H with
  | [.c (.ptr 0 0 0), .c (.int .i64 k)], [.blk [.own 1 pn, .own 2 sn, .own 3 wn, .int .i64 t, .int .i64 d, .int .i64 a] 50, o1, o2, o3] => (match o1.asOwn 2 9 with | some P => (match o2.asOwn 2 9 with | some S => (match o3.asOwn 6 61 with | some W => .need ((.blk [.own 1 pn, .own 2 sn, .own 3 wn, .int .i64 t, .int .i64 d, .int .i64 a] 50 : HObj cod) = .blk [.own 1 (List.length P), .own 2 (List.length S), .own 3 (List.length W), .int .i64 t, .int .i64 d, .int .i64 a] 50) (.need ((W.length ≤ 64)) (.ret (.c (.int .i64 (F.tkE (F.PS.mk P S W t d a) k)), [.blk [.own 1 (List.length P), .own 2 (List.length S), .own 3 (List.length (F.drp (F.PS.mk P S W t d a) k).W), .int .i64 t, .int .i64 d, .int .i64 a] 50, .own 2 P 9, .own 2 S 9, .own 6 (F.drp (F.PS.mk P S W t d a) k).W 61]))) | none => .fail) | none => .fail) | none => .fail)
  | _, _ => .fail


theorem drop_sound : SoundI Tryz.prog cod 13 s_drop := tree_soundI (cfg := C_take) Tryz.func13 rfl rfl _ fun args H r H' hg b0 hb => by
  unfold s_drop at hg
  split at hg
  · skip
    split at hg
    · rename_i P hx1
      cases asOwn_spec hx1
      split at hg
      · rename_i S hx2
        cases asOwn_spec hx2
        split at hg
        · rename_i W hx3
          cases asOwn_spec hx3
          obtain ⟨ot0, hg⟩ := hg
          cases ot0
          obtain ⟨hq, hg⟩ := hg
          have q0 := hq
          cases hg
          exact drop_run _ _ _ _ _ _ _ b0 hb (by assumption)
        · exact hg.elim
      · exact hg.elim
    · exact hg.elim
  · exact hg.elim

noncomputable def L_drop : Sums cod := (13, .i s_drop) :: L_take
noncomputable def C_drop : Cfg cod := mkC L_drop

theorem L_drop_ok : Snd Tryz.prog cod L_drop := .consI drop_sound L_take_ok



def cuts_answ : Cuts := []

theorem answ_t0 (P S : List (List UInt8)) (W : List (Int × Int × Bool × List UInt8)) (t d a : Int) : symI C_drop cuts_answ Tryz.f17.results.toList ([.blk [.own 1 (List.length P), .own 2 (List.length S), .own 3 (List.length W), .int .i64 t, .int .i64 d, .int .i64 a] 50, .own 2 P 9, .own 2 S 9, .own 6 W 61] : Heap cod) 400 [.code (codeOf Tryz.f17)] ⟨argsS Tryz.f17 [.c (.ptr 0 0 0)], ([.blk [.own 1 (List.length P), .own 2 (List.length S), .own 3 (List.length W), .int .i64 t, .int .i64 d, .int .i64 a] 50, .own 2 P 9, .own 2 S 9, .own 6 W 61] : Heap cod)⟩ =
.ret (.fin (.c (.int .i64 a)) [.blk [.own 1 (List.length P), .own 2 (List.length S), .own 3 (List.length W), .int .i64 t, .int .i64 d, .int .i64 a] 50, .own 2 P 9, .own 2 S 9, .own 6 W 61]) := by kernel_rfl



theorem answ_run (P S : List (List UInt8)) (W : List (Int × Int × Bool × List UInt8)) (t d a : Int) (b0 : Base) (hb : b0.n = 4)  : Sym.Runs Tryz.prog b0 [.code (codeOf Tryz.f17)] ⟨argsS Tryz.f17 [.c (.ptr 0 0 0)], ([.blk [.own 1 (List.length P), .own 2 (List.length S), .own 3 (List.length W), .int .i64 t, .int .i64 d, .int .i64 a] 50, .own 2 P 9, .own 2 S 9, .own 6 W 61] : Heap cod)⟩ (Sym.EndsI Tryz.prog Tryz.f17 ([.blk [.own 1 (List.length P), .own 2 (List.length S), .own 3 (List.length W), .int .i64 t, .int .i64 d, .int .i64 a] 50, .own 2 P 9, .own 2 S 9, .own 6 W 61] : Heap cod) (.c (.int .i64 a)) [.blk [.own 1 (List.length P), .own 2 (List.length S), .own 3 (List.length W), .int .i64 t, .int .i64 d, .int .i64 a] 50, .own 2 P 9, .own 2 S 9, .own 6 W 61]) := by
  refine Runs.goI (cfg := C_drop) L_drop_ok mixed cuts_answ 400 (H := ([.blk [.own 1 (List.length P), .own 2 (List.length S), .own 3 (List.length W), .int .i64 t, .int .i64 d, .int .i64 a] 50, .own 2 P 9, .own 2 S 9, .own 6 W 61] : Heap cod)) hb (answ_t0 P S W t d a) ?_
  exact ⟨rfl, rfl⟩



noncomputable def s_answ : Summ cod := fun args H => match args, H with
  | [.c (.ptr 0 0 0)], [.blk [.own 1 pn, .own 2 sn, .own 3 wn, .int .i64 t, .int .i64 d, .int .i64 a] 50, o1, o2, o3] => (match o1.asOwn 2 9 with | some P => (match o2.asOwn 2 9 with | some S => (match o3.asOwn 6 61 with | some W => .need ((.blk [.own 1 pn, .own 2 sn, .own 3 wn, .int .i64 t, .int .i64 d, .int .i64 a] 50 : HObj cod) = .blk [.own 1 (List.length P), .own 2 (List.length S), .own 3 (List.length W), .int .i64 t, .int .i64 d, .int .i64 a] 50) (.ret (.c (.int .i64 a), [.blk [.own 1 (List.length P), .own 2 (List.length S), .own 3 (List.length W), .int .i64 t, .int .i64 d, .int .i64 a] 50, .own 2 P 9, .own 2 S 9, .own 6 W 61])) | none => .fail) | none => .fail) | none => .fail)
  | _, _ => .fail


theorem answ_sound : SoundI Tryz.prog cod 17 s_answ := tree_soundI (cfg := C_drop) Tryz.func17 rfl rfl _ fun args H r H' hg b0 hb => by
  unfold s_answ at hg
  split at hg
  · skip
    split at hg
    · rename_i P hx1
      cases asOwn_spec hx1
      split at hg
      · rename_i S hx2
        cases asOwn_spec hx2
        split at hg
        · rename_i W hx3
          cases asOwn_spec hx3
          obtain ⟨ot0, hg⟩ := hg
          cases ot0
          cases hg
          exact answ_run _ _ _ _ _ _ b0 hb 
        · exact hg.elim
      · exact hg.elim
    · exact hg.elim
  · exact hg.elim

noncomputable def L_answ : Sums cod := (17, .i s_answ) :: L_drop
noncomputable def C_answ : Cfg cod := mkC L_answ

theorem L_answ_ok : Snd Tryz.prog cod L_answ := .consI answ_sound L_drop_ok


end
end Go.Proofs.YtiolfkmkbccndaaGreatDoor
