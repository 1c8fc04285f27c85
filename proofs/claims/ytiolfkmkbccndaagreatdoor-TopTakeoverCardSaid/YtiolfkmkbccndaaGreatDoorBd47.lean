/- Parts of the proof, one behind the other: Yd, Yf. -/
import Derived.Test.YtiolfkmkbccndaaGreatDoorYc
import Derived.Test.YtiolfkmkbccndaaGreatDoorBd43
section
namespace Go.Proofs.YtiolfkmkbccndaaGreatDoor
open Sym Go.RowKit
noncomputable section
set_option maxRecDepth 100000
set_option maxHeartbeats 4000000



noncomputable def s_tko : Summ cod := fun args H => match H with
  | .blk [_, .own _ n, _, _, _, .int _ a] _ :: _ => .ite (decide ((n : Int) < a)) (s_tkoA args H) (s_tkoB args H)
  | _ => .fail
noncomputable def s_wir : Summ cod := fun args H => match H with
  | .blk [_, _, .own _ n, _, _, _] _ :: _ => .ite (decide (n = 0)) (s_wirA args H) (s_wirB args H)
  | _ => .fail
noncomputable def s_pri : Summ cod := fun args H => match H with
  | .blk [.own _ n, _, _, _, _, _] _ :: _ => .ite (decide (n = 0)) (s_priA args H) (s_priB args H)
  | _ => .fail


theorem sound_of {g : FuncId} {s s1 s2 : Summ cod} (h1 : SoundI Tryz.prog cod g s1) (h2 : SoundI Tryz.prog cod g s2) (h : ∀ args H r, (s args H).gives r → (s1 args H).gives r ∨ (s2 args H).gives r) : SoundI Tryz.prog cod g s := by
  refine ⟨h1.enters, fun args H env w vs r H' G ha hg => ?_⟩
  rcases h args H _ hg with q | q
  · exact h1.calls args H env w vs r H' G ha q
  · exact h2.calls args H env w vs r H' G ha q
theorem ite_or {α : Type} {c : Bool} {x y : T α} {r : α} (h : (T.ite c x y).gives r) : x.gives r ∨ y.gives r := by
  cases c with
  | true => exact .inl (h.1 rfl)
  | false => exact .inr (h.2 rfl)
theorem tko_sound : SoundI Tryz.prog cod 15 s_tko := sound_of tkoA_sound tkoB_sound fun args H r h => by
  unfold s_tko at h
  split at h
  · exact ite_or h
  · exact h.elim
theorem wir_sound : SoundI Tryz.prog cod 10 s_wir := sound_of wirA_sound wirB_sound fun args H r h => by
  unfold s_wir at h
  split at h
  · exact ite_or h
  · exact h.elim
theorem pri_sound : SoundI Tryz.prog cod 7 s_pri := sound_of priA_sound priB_sound fun args H r h => by
  unfold s_pri at h
  split at h
  · exact ite_or h
  · exact h.elim

noncomputable def L_tko : Sums cod := (15, .i s_tko) :: L_priB
noncomputable def C_tko : Cfg cod := mkC L_tko

theorem L_tko_ok : Snd Tryz.prog cod L_tko := .consI tko_sound L_priB_ok


noncomputable def L_wir : Sums cod := (10, .i s_wir) :: L_tko
noncomputable def C_wir : Cfg cod := mkC L_wir

theorem L_wir_ok : Snd Tryz.prog cod L_wir := .consI wir_sound L_tko_ok


noncomputable def L_pri : Sums cod := (7, .i s_pri) :: L_wir
noncomputable def C_pri : Cfg cod := mkC L_pri

theorem L_pri_ok : Snd Tryz.prog cod L_pri := .consI pri_sound L_wir_ok



def cuts_sendB : Cuts := []

theorem sendB_t0 (P S : List (List UInt8)) (W : List (Int × Int × Bool × List UInt8)) (t d a : Int) (ml : List (Int × Int × Bool × List UInt8)) : symI C_pri cuts_sendB Tryz.f24.results.toList ([.blk [.own 2 (List.length P), .own 3 (List.length S), .own 4 (List.length W), .int .i64 t, .int .i64 d, .int .i64 a] 50, .own 6 ml 61, .own 2 P 9, .own 2 S 9, .own 6 W 61] : Heap cod) 400 [.code (codeOf Tryz.f24)] ⟨argsS Tryz.f24 [.c (.ptr 0 0 0), .c (.own 1 (List.length ml))], ([.blk [.own 2 (List.length P), .own 3 (List.length S), .own 4 (List.length W), .int .i64 t, .int .i64 d, .int .i64 a] 50, .own 6 ml 61, .own 2 P 9, .own 2 S 9, .own 6 W 61] : Heap cod)⟩ =
.need (i64ok (Int.ofNat (List.length W) + Int.ofNat (List.length ml))) (
 cond (decide (64 < Int.ofNat (List.length W) + Int.ofNat (List.length ml))) (
 .ret (.fin (.c (.int .i64 9)) [.blk [.own 2 (List.length P), .own 3 (List.length S), .own 4 (List.length W), .int .i64 t, .int .i64 d, .int .i64 a] 50, .own 6 ml 61, .own 2 P 9, .own 2 S 9, .own 6 W 61])) (
 .need (List.length W + List.length ml ≤ 1000000) (
 .ret (.fin (.c (.int .i64 0)) [.blk [.own 2 (List.length P), .own 3 (List.length S), .own 4 (List.length W + List.length ml), .int .i64 t, .int .i64 d, .int .i64 a] 50, .own 6 ml 61, .own 2 P 9, .own 2 S 9, .own 6 (W ++ ml) 61])))) := by kernel_rfl



theorem sendB_run (P S : List (List UInt8)) (W : List (Int × Int × Bool × List UInt8)) (t d a : Int) (ml : List (Int × Int × Bool × List UInt8)) (b0 : Base) (hb : b0.n = 5) (h0 : W.length ≤ 64 ∧ ml.length ≤ 64) : Sym.Runs Tryz.prog b0 [.code (codeOf Tryz.f24)] ⟨argsS Tryz.f24 [.c (.ptr 0 0 0), .c (.own 1 (List.length ml))], ([.blk [.own 2 (List.length P), .own 3 (List.length S), .own 4 (List.length W), .int .i64 t, .int .i64 d, .int .i64 a] 50, .own 6 ml 61, .own 2 P 9, .own 2 S 9, .own 6 W 61] : Heap cod)⟩ (Sym.EndsI Tryz.prog Tryz.f24 ([.blk [.own 2 (List.length P), .own 3 (List.length S), .own 4 (List.length W), .int .i64 t, .int .i64 d, .int .i64 a] 50, .own 6 ml 61, .own 2 P 9, .own 2 S 9, .own 6 W 61] : Heap cod) (.c (.int .i64 (F.sndE W ml))) [.blk [.own 2 (List.length P), .own 3 (List.length S), .own 4 (List.length (F.sndW W ml)), .int .i64 t, .int .i64 d, .int .i64 a] 50, .own 6 ml 61, .own 2 P 9, .own 2 S 9, .own 6 (F.sndW W ml) 61]) := by
  refine Runs.goI (cfg := C_pri) L_pri_ok mixed cuts_sendB 400 (H := ([.blk [.own 2 (List.length P), .own 3 (List.length S), .own 4 (List.length W), .int .i64 t, .int .i64 d, .int .i64 a] 50, .own 6 ml 61, .own 2 P 9, .own 2 S 9, .own 6 W 61] : Heap cod)) hb (sendB_t0 P S W t d a ml) ?_
  obtain ⟨w1, m2⟩ := h0
  simp only [T.wp, T.wp_cond, Aft, Int.ofNat_eq_natCast, decide_eq_true_eq]
  refine ⟨by unfold i64ok; omega, ?_⟩
  by_cases c : 64 < W.length + ml.length
  · have e1 : F.sndE W ml = 9 := if_pos c
    have e2 : F.sndW W ml = W := if_pos c
    rw [e1, e2]
    exact ite_yes (by omega) (by first | trivial | exact ⟨rfl, rfl⟩)
  · have e1 : F.sndE W ml = 0 := if_neg c
    have e2 : F.sndW W ml = W ++ ml := if_neg c
    rw [e1, e2, List.length_append]
    exact ite_no (by omega) (by first | exact ⟨by omega, rfl, rfl⟩ | omega)



noncomputable def s_sendB : Summ cod := fun args H => match args, H with
  | [.c (.ptr 0 0 0), .c (.own 1 q)], [.blk [.own 2 pn, .own 3 sn, .own 4 wn, .int .i64 t, .int .i64 d, .int .i64 a] 50, o1, o2, o3, o4] => (match o1.asOwn 6 61 with | some ml => (match o2.asOwn 2 9 with | some P => (match o3.asOwn 2 9 with | some S => (match o4.asOwn 6 61 with | some W => .need ((.blk [.own 2 pn, .own 3 sn, .own 4 wn, .int .i64 t, .int .i64 d, .int .i64 a] 50 : HObj cod) = .blk [.own 2 (List.length P), .own 3 (List.length S), .own 4 (List.length W), .int .i64 t, .int .i64 d, .int .i64 a] 50) (.need ((.c (.own 1 q) : SV) = .c (.own 1 (List.length ml))) (.need ((W.length ≤ 64 ∧ ml.length ≤ 64)) (.ret (.c (.int .i64 (F.sndE W ml)), [.blk [.own 2 (List.length P), .own 3 (List.length S), .own 4 (List.length (F.sndW W ml)), .int .i64 t, .int .i64 d, .int .i64 a] 50, .own 6 ml 61, .own 2 P 9, .own 2 S 9, .own 6 (F.sndW W ml) 61])))) | none => .fail) | none => .fail) | none => .fail) | none => .fail)
  | _, _ => .fail


theorem sendB_sound : SoundI Tryz.prog cod 24 s_sendB := tree_soundI (cfg := C_pri) Tryz.func24 rfl rfl _ fun args H r H' hg b0 hb => by
  unfold s_sendB at hg
  split at hg
  · skip
    split at hg
    · rename_i ml hx1
      cases asOwn_spec hx1
      split at hg
      · rename_i P hx2
        cases asOwn_spec hx2
        split at hg
        · rename_i S hx3
          cases asOwn_spec hx3
          split at hg
          · rename_i W hx4
            cases asOwn_spec hx4
            obtain ⟨ot0, hg⟩ := hg
            cases ot0
            obtain ⟨tt, hg⟩ := hg
            have t0 := tt
            cases t0
            obtain ⟨hq, hg⟩ := hg
            have q0 := hq
            cases hg
            exact sendB_run _ _ _ _ _ _ _ b0 hb (by assumption)
          · exact hg.elim
        · exact hg.elim
      · exact hg.elim
    · exact hg.elim
  · exact hg.elim

noncomputable def L_sendB : Sums cod := (24, .i s_sendB) :: L_pri
noncomputable def C_sendB : Cfg cod := mkC L_sendB

theorem L_sendB_ok : Snd Tryz.prog cod L_sendB := .consI sendB_sound L_pri_ok



def cuts_resd : Cuts := [(3, [0, 4, 3], 5)]

theorem resd_t0 (P S : List (List UInt8)) (W : List (Int × Int × Bool × List UInt8)) (t d a : Int) : symI C_sendB cuts_resd Tryz.f14.results.toList ([.blk [.own 1 (List.length P), .own 2 (List.length S), .own 3 (List.length W), .int .i64 t, .int .i64 d, .int .i64 a] 50, .own 2 P 9, .own 2 S 9, .own 6 W 61] : Heap cod) 400 [.code (codeOf Tryz.f14)] ⟨argsS Tryz.f14 [.c (.ptr 0 0 0)], ([.blk [.own 1 (List.length P), .own 2 (List.length S), .own 3 (List.length W), .int .i64 t, .int .i64 d, .int .i64 a] 50, .own 2 P 9, .own 2 S 9, .own 6 W 61] : Heap cod)⟩ =
.need (i64ok (d + 1)) (
.ret (.cut (cutAt Tryz.f14 3) ⟨tmG 23 [(0, .c (.ptr 0 0 0)), (2, .c (.own 4 0)), (0, .c (.int .i64 (d + 1)))], [.blk [.own 1 (List.length P), .own 2 (List.length S), .own 3 (List.length W), .int .i64 t, .int .i64 d, .int .i64 a] 50, .own 2 P 9, .own 2 S 9, .own 6 W 61, .own 6 [] 61]⟩)) := by kernel_rfl


noncomputable def st_resd_3 (P S : List (List UInt8)) (W : List (Int × Int × Bool × List UInt8)) (t d a : Int) (n : Nat) (ml : List (Int × Int × Bool × List UInt8)) (q : Nat) : St cod := ⟨tmG 23 [(0, .c (.ptr 0 0 0)), (2, .c (.own 4 q)), (0, .c (.int .i64 (n : Int)))], ([.blk [.own 1 (List.length P), .own 2 (List.length S), .own 3 (List.length W), .int .i64 t, .int .i64 d, .int .i64 a] 50, .own 2 P 9, .own 2 S 9, .own 6 W 61, .own 6 ml 61] : Heap cod)⟩


theorem resd_t3 (P S : List (List UInt8)) (W : List (Int × Int × Bool × List UInt8)) (t d a : Int) (n : Nat) (ml : List (Int × Int × Bool × List UInt8)) (q : Nat) : symI C_sendB cuts_resd Tryz.f14.results.toList ([.blk [.own 1 (List.length P), .own 2 (List.length S), .own 3 (List.length W), .int .i64 t, .int .i64 d, .int .i64 a] 50, .own 2 P 9, .own 2 S 9, .own 6 W 61] : Heap cod) 400 (cutAt Tryz.f14 3) (st_resd_3 P S W t d a n ml q) =
 cond (decide (Int.ofNat n ≤ Int.ofNat (List.length P))) (
 .need ((HObj.blk (cod := cod) [Cell.own 1 (List.length P), Cell.own 2 (List.length S), Cell.own 3 (List.length W), Cell.int IntKind.i64 t,       Cell.int IntKind.i64 d, Cell.int IntKind.i64 a] 50 : HObj cod) =   HObj.blk     [Cell.own 1 (List.length P), Cell.own 2 (List.length S), Cell.own 3 (List.length W), Cell.int IntKind.i64 t,       Cell.int IntKind.i64 d, Cell.int IntKind.i64 a]     50) (
 .need (((1 : Int) ≤ Int.ofNat n ∧ (Int.ofNat n ≤ Int.ofNat (List.length P) ∧ List.length P ≤ 64))) (
 .need (1 = 1) (
 .need (q + 1 ≤ 1000000) (
 .need (i64ok (Int.ofNat n + 1)) (
 .ret (.cut (cutAt Tryz.f14 3) ⟨tmG 23 [(0, .c (.ptr 0 0 0)), (2, .c (.own 4 (q + 1))), (0, .c (.int .i64 (Int.ofNat n + 1)))], [.blk [.own 1 (List.length P), .own 2 (List.length S), .own 3 (List.length W), .int .i64 t, .int .i64 d, .int .i64 a] 50, .own 2 P 9, .own 2 S 9, .own 6 W 61, .own 6 (ml ++ ([(t, Int.ofNat n, false, F.msT { P := P, S := S, W := W, t := t, d := d, a := a } (Int.ofNat n))])) 61]⟩))))))) (
 .need ((HObj.blk (cod := cod) [Cell.own 2 (List.length P), Cell.own 3 (List.length S), Cell.own 4 (List.length W), Cell.int IntKind.i64 t,       Cell.int IntKind.i64 d, Cell.int IntKind.i64 a] 50 : HObj cod) =   HObj.blk     [Cell.own 2 (List.length P), Cell.own 3 (List.length S), Cell.own 4 (List.length W), Cell.int IntKind.i64 t,       Cell.int IntKind.i64 d, Cell.int IntKind.i64 a]     50) (
 .need (SV.c (Cell.own 1 q) = SV.c (Cell.own 1 (List.length ml))) (
 .need ((List.length W ≤ 64 ∧ List.length ml ≤ 64)) (
 .ret (.fin (.c (.int .i64 (F.sndE W ml))) [.blk [.own 1 (List.length P), .own 2 (List.length S), .own 3 (List.length (F.sndW W ml)), .int .i64 t, .int .i64 d, .int .i64 a] 50, .own 2 P 9, .own 2 S 9, .own 6 (F.sndW W ml) 61]))))) := by kernel_rfl



theorem resd3 (P S : List (List UInt8)) (W : List (Int × Int × Bool × List UInt8)) (t d a : Int) (b0 : Base) (hb : b0.n = 4) (hw : W.length ≤ 64) (hp : P.length ≤ 64) (A : List F.Msg) (hA : A.length ≤ 64) : ∀ (j n : Nat) (ml : List F.Msg) (q : Nat), n + j = P.length + 1 → 1 ≤ n → q = ml.length → ml ++ F.resL (F.PS.mk P S W t d a) j n = A →
    Sym.Runs Tryz.prog b0 (cutAt Tryz.f14 3) (st_resd_3 P S W t d a n ml q) (Sym.EndsI Tryz.prog Tryz.f14 ([.blk [.own 1 (List.length P), .own 2 (List.length S), .own 3 (List.length W), .int .i64 t, .int .i64 d, .int .i64 a] 50, .own 2 P 9, .own 2 S 9, .own 6 W 61] : Heap cod) (.c (.int .i64 (F.sndE W A))) [.blk [.own 1 (List.length P), .own 2 (List.length S), .own 3 (List.length (F.sndW W A)), .int .i64 t, .int .i64 d, .int .i64 a] 50, .own 2 P 9, .own 2 S 9, .own 6 (F.sndW W A) 61]) := by
  intro j
  induction j with
  | zero =>
    intro n ml q hn h1 hq hR
    have e : F.resL (F.PS.mk P S W t d a) 0 n = [] := rfl
    rw [e, List.append_nil] at hR
    subst hR
    subst hq
    refine Runs.goI (cfg := C_sendB) L_sendB_ok mixed cuts_resd 400 (H := ([.blk [.own 1 (List.length P), .own 2 (List.length S), .own 3 (List.length W), .int .i64 t, .int .i64 d, .int .i64 a] 50, .own 2 P 9, .own 2 S 9, .own 6 W 61] : Heap cod)) hb (resd_t3 P S W t d a n ml ml.length) ?_
    rw [T.wp_cond]
    exact ite_no (by simp only [decide_eq_true_eq, Int.ofNat_eq_natCast]; omega) ⟨rfl, rfl, ⟨hw, hA⟩, rfl, rfl⟩
  | succ j ih =>
    intro n ml q hn h1 hq hR
    have e : F.resL (F.PS.mk P S W t d a) (j + 1) n = (t, (n : Int), false, P.getD (n - 1) []) :: F.resL (F.PS.mk P S W t d a) j (n + 1) := rfl
    have em : F.msT (F.PS.mk P S W t d a) (Int.ofNat n) = P.getD (n - 1) [] := by
      show P.getD ((Int.ofNat n) - 1).toNat [] = _
      rw [show ((Int.ofNat n) - 1).toNat = n - 1 by simp only [Int.ofNat_eq_natCast]; omega]
    have hlen : ml.length ≤ 64 := by
      have := congrArg List.length hR
      rw [List.length_append] at this
      omega
    have e2 : ml ++ F.resL (F.PS.mk P S W t d a) (j + 1) n = (ml ++ [(t, (n : Int), false, P.getD (n - 1) [])]) ++ F.resL (F.PS.mk P S W t d a) j (n + 1) := by rw [e]; simp
    rw [e2] at hR
    have nx := ih (n + 1) (ml ++ [(t, (n : Int), false, P.getD (n - 1) [])]) (q + 1) (by omega) (by omega) (by rw [List.length_append, hq]; rfl) hR
    refine Runs.goI (cfg := C_sendB) L_sendB_ok mixed cuts_resd 400 (H := ([.blk [.own 1 (List.length P), .own 2 (List.length S), .own 3 (List.length W), .int .i64 t, .int .i64 d, .int .i64 a] 50, .own 2 P 9, .own 2 S 9, .own 6 W 61] : Heap cod)) hb (resd_t3 P S W t d a n ml q) ?_
    rw [em, T.wp_cond]
    exact ite_yes (by simp only [decide_eq_true_eq, Int.ofNat_eq_natCast]; omega) ⟨rfl, ⟨by simp only [Int.ofNat_eq_natCast]; omega, by simp only [Int.ofNat_eq_natCast]; omega, hp⟩, rfl, by omega, by unfold i64ok; simp only [Int.ofNat_eq_natCast]; omega, nx⟩
theorem resd_run (P S : List (List UInt8)) (W : List (Int × Int × Bool × List UInt8)) (t d a : Int) (b0 : Base) (hb : b0.n = 4) (h0 : W.length ≤ 64 ∧ P.length ≤ 64 ∧ 0 ≤ d ∧ d ≤ P.length) : Sym.Runs Tryz.prog b0 [.code (codeOf Tryz.f14)] ⟨argsS Tryz.f14 [.c (.ptr 0 0 0)], ([.blk [.own 1 (List.length P), .own 2 (List.length S), .own 3 (List.length W), .int .i64 t, .int .i64 d, .int .i64 a] 50, .own 2 P 9, .own 2 S 9, .own 6 W 61] : Heap cod)⟩ (Sym.EndsI Tryz.prog Tryz.f14 ([.blk [.own 1 (List.length P), .own 2 (List.length S), .own 3 (List.length W), .int .i64 t, .int .i64 d, .int .i64 a] 50, .own 2 P 9, .own 2 S 9, .own 6 W 61] : Heap cod) (.c (.int .i64 (F.sndE W (F.resA (F.PS.mk P S W t d a))))) [.blk [.own 1 (List.length P), .own 2 (List.length S), .own 3 (List.length (F.sndW W (F.resA (F.PS.mk P S W t d a)))), .int .i64 t, .int .i64 d, .int .i64 a] 50, .own 2 P 9, .own 2 S 9, .own 6 (F.sndW W (F.resA (F.PS.mk P S W t d a))) 61]) := by
  obtain ⟨w1, p1, d0, d1⟩ := h0
  refine Runs.goI (cfg := C_sendB) L_sendB_ok mixed cuts_resd 400 (H := ([.blk [.own 1 (List.length P), .own 2 (List.length S), .own 3 (List.length W), .int .i64 t, .int .i64 d, .int .i64 a] 50, .own 2 P 9, .own 2 S 9, .own 6 W 61] : Heap cod)) hb (resd_t0 P S W t d a) ?_
  refine ⟨by unfold i64ok; omega, ?_⟩
  have hl : (F.resA (F.PS.mk P S W t d a)).length ≤ 64 := by
    unfold F.resA
    rw [F.resL_len]
    show P.length - d.toNat ≤ 64
    omega
  have A := resd3 P S W t d a b0 hb w1 p1 (F.resA (F.PS.mk P S W t d a)) hl (P.length - d.toNat) (d.toNat + 1) [] 0 (by omega) (by omega) rfl rfl
  have e : ((d.toNat + 1 : Nat) : Int) = d + 1 := by omega
  have e3 : st_resd_3 P S W t d a (d.toNat + 1) [] 0 = ⟨tmG 23 [(0, .c (.ptr 0 0 0)), (2, .c (.own 4 0)), (0, .c (.int .i64 ((d.toNat + 1 : Nat) : Int)))], [.blk [.own 1 (List.length P), .own 2 (List.length S), .own 3 (List.length W), .int .i64 t, .int .i64 d, .int .i64 a] 50, .own 2 P 9, .own 2 S 9, .own 6 W 61, .own 6 [] 61]⟩ := rfl
  rw [e3, e] at A
  exact A



noncomputable def s_resd : Summ cod := fun args H => match args, H with
  | [.c (.ptr 0 0 0)], [.blk [.own 1 pn, .own 2 sn, .own 3 wn, .int .i64 t, .int .i64 d, .int .i64 a] 50, o1, o2, o3] => (match o1.asOwn 2 9 with | some P => (match o2.asOwn 2 9 with | some S => (match o3.asOwn 6 61 with | some W => .need ((.blk [.own 1 pn, .own 2 sn, .own 3 wn, .int .i64 t, .int .i64 d, .int .i64 a] 50 : HObj cod) = .blk [.own 1 (List.length P), .own 2 (List.length S), .own 3 (List.length W), .int .i64 t, .int .i64 d, .int .i64 a] 50) (.need ((W.length ≤ 64 ∧ P.length ≤ 64 ∧ 0 ≤ d ∧ d ≤ P.length)) (.ret (.c (.int .i64 (F.sndE W (F.resA (F.PS.mk P S W t d a)))), [.blk [.own 1 (List.length P), .own 2 (List.length S), .own 3 (List.length (F.sndW W (F.resA (F.PS.mk P S W t d a)))), .int .i64 t, .int .i64 d, .int .i64 a] 50, .own 2 P 9, .own 2 S 9, .own 6 (F.sndW W (F.resA (F.PS.mk P S W t d a))) 61]))) | none => .fail) | none => .fail) | none => .fail)
  | _, _ => .fail


theorem resd_sound : SoundI Tryz.prog cod 14 s_resd := tree_soundI (cfg := C_sendB) Tryz.func14 rfl rfl _ fun args H r H' hg b0 hb => by
  unfold s_resd at hg
  split at hg
  · skip
    split at hg
    · rename_i P hx1
      cases asOwn_spec hx1
      split at hg
      · rename_i S hx2
        cases asOwn_spec hx2
        split at hg
        · rename_i W hx3
          cases asOwn_spec hx3
          obtain ⟨ot0, hg⟩ := hg
          cases ot0
          obtain ⟨hq, hg⟩ := hg
          have q0 := hq
          cases hg
          exact resd_run _ _ _ _ _ _ b0 hb (by assumption)
        · exact hg.elim
      · exact hg.elim
    · exact hg.elim
  · exact hg.elim

noncomputable def L_resd : Sums cod := (14, .i s_resd) :: L_sendB
noncomputable def C_resd : Cfg cod := mkC L_resd

theorem L_resd_ok : Snd Tryz.prog cod L_resd := .consI resd_sound L_sendB_ok



def cuts_newp : Cuts := []

theorem newp_t0  : symF C_resd cuts_newp Tryz.f4.results.toList 0 400 [.code (codeOf Tryz.f4)] ⟨argsS Tryz.f4 [], ([] : Heap cod)⟩ =
.ret (.fin (.c (.ptr 0 0 0)) [.blk [.nil, .nil, .nil, .int .i64 1, .int .i64 0, .int .i64 0] 50]) := by kernel_rfl



theorem newp_run  (b0 : Base) (hb : b0.n = 0)  : Sym.Runs Tryz.prog b0 [.code (codeOf Tryz.f4)] ⟨argsS Tryz.f4 [], ([] : Heap cod)⟩ (Sym.Ends Tryz.prog Tryz.f4 0 (.c (.ptr 0 0 0)) [.blk [.nil, .nil, .nil, .int .i64 1, .int .i64 0, .int .i64 0] 50]) := by
  refine Runs.go (cfg := C_resd) L_resd_ok mixed cuts_newp 400 hb newp_t0 ?_
  exact ⟨rfl, rfl⟩



noncomputable def s_newp : Summ cod := fun args H => match args, H with
  | [], [] => .ret (.c (.ptr 0 0 0), [.blk [.nil, .nil, .nil, .int .i64 1, .int .i64 0, .int .i64 0] 50])
  | _, _ => .fail


theorem newp_sound : Sound Tryz.prog cod 4 s_newp := sound_runs (cfg := C_resd) L_resd_ok mixed Tryz.func4 rfl rfl _ fun args H r news hg b0 hb => by
  unfold s_newp at hg
  split at hg
  · skip
    cases hg
    exact newp_run  b0 hb 
  · exact hg.elim

noncomputable def L_newp : Sums cod := (4, .p s_newp) :: L_resd
noncomputable def C_newp : Cfg cod := mkC L_newp

theorem L_newp_ok : Snd Tryz.prog cod L_newp := .cons newp_sound L_resd_ok


end
end Go.Proofs.YtiolfkmkbccndaaGreatDoor
end
section
namespace Go.Proofs.YtiolfkmkbccndaaGreatDoor
open Sym Go.RowKit
noncomputable section
set_option maxRecDepth 100000
set_option maxHeartbeats 4000000



def cuts_stepN : Cuts := [(100001, [0, 3], 5)]
def cuts_stepN_r1 : Cuts := []
def cuts_stepN_r1b : Cuts := []

theorem stepN_t0 (n : Int) : symF (Cfg.maybe C_run) cuts_stepN Tryz.f20.results.toList 0 400 [.code (codeOf Tryz.f20)] ⟨argsS Tryz.f20 [.c .nil, .agg [.int .i64 n, .int .i64 0, .str [115, 101, 116], .str [97, 32, 98]]], ([] : Heap cod)⟩ =
.ret (.cut (regAt Tryz.f20 1) ⟨tmG 58 [(0, .c (.nil)), (2, .c (.ptr 0 0 0))], [.blk [.int .i64 n, .int .i64 0, .str ([115, 101, 116]), .str ([97, 32, 98])] 31, .own 1 [] 56]⟩) := by kernel_rfl


noncomputable def st_stepN_r1 (n : Int)  : St cod := ⟨tmG 58 [(0, .c (.nil)), (2, .c (.ptr 0 0 0))], [.blk [.int .i64 n, .int .i64 0, .str ([115, 101, 116]), .str ([97, 32, 98])] 31, .own 1 [] 56]⟩


noncomputable def st_stepN_r1b (n : Int)  : St cod := ⟨tmG 58 [(0, .c (.own 1 0)), (2, .c (.ptr 0 0 0))], ([.blk [.int .i64 n, .int .i64 0, .str [115, 101, 116], .str [97, 32, 98]] 31, .own 1 [] 56] : Heap cod)⟩


theorem stepN_tr1b (n : Int)  : symF (Cfg.maybe C_run) cuts_stepN_r1b Tryz.f20.results.toList 0 400 (regAt Tryz.f20 1) (st_stepN_r1b n ) =
.need (((0 = 0 ∧ 0 = 0) ∧ F.short [])) (
.need (((3 : Nat) ≤ 1000000000000000 ∧ (3 : Nat) ≤ 1000000000000000)) (
 cond (!decide (F.enE n 0 [115, 101, 116] [97, 32, 98] = 0)) (
 .ret (.fin (.tup [.c (.own 0 0), .c (.int .i64 (F.enE n 0 [115, 101, 116] [97, 32, 98]))]) [.own 1 [] 56])) (
 .need ((3 : Nat) ≤ 1000000000000000) (
 .need (((0 = 0 ∧ 0 = 0) ∧ (F.short [] ∧ ((1 : Nat) ≤ 1000000000000000 ∧ (1 : Nat) ≤ 1000000000000000)))) (
 .ret (.fin (.tup [.c (.own 0 1), .c (.int .i64 (F.setE [] (F.spA [97, 32, 98]) (F.spB [97, 32, 98])))]) [.own 1 (F.setR [] (F.spA [97, 32, 98]) (F.spB [97, 32, 98])) 56])))))) := by kernel_rfl



theorem stepN_run (n : Int) (b0 : Base) (hb : b0.n = 0) (h0 : n = 1) : Sym.Runs Tryz.prog b0 [.code (codeOf Tryz.f20)] ⟨argsS Tryz.f20 [.c .nil, .agg [.int .i64 n, .int .i64 0, .str [115, 101, 116], .str [97, 32, 98]]], ([] : Heap cod)⟩ (Sym.Ends Tryz.prog Tryz.f20 0 (.tup [.c (.own 0 1), .c (.int .i64 0)]) [.own 1 [([97], [98])] 56]) := by
  subst h0
  have hs : F.short [] := fun x hx => by cases hx
  have eE : F.setE [] (F.spA [97, 32, 98]) (F.spB [97, 32, 98]) = 0 := by kernel_rfl
  have eR : F.setR [] (F.spA [97, 32, 98]) (F.spB [97, 32, 98]) = [([97], [98])] := by kernel_rfl
  have eN : F.enE 1 0 [115, 101, 116] [97, 32, 98] = 0 := by kernel_rfl
  refine Runs.go (cfg := Cfg.maybe C_run) (CfgFit.maybe L_run_ok) mixed cuts_stepN 400 hb (stepN_t0 1) ?_
  refine Runs.madeS 0 1 56 rfl rfl ?_
  refine Runs.turn [0, 2] 1 hb (by decide) rfl rfl (st' := st_stepN_r1b 1) rfl ?_
  refine Runs.go (cfg := Cfg.maybe C_run) (CfgFit.maybe L_run_ok) mixed cuts_stepN_r1b 400 hb (stepN_tr1b 1) ?_
  rw [eE, eR, eN]
  exact ⟨⟨⟨rfl, rfl⟩, hs⟩, ⟨by decide, by decide⟩, by
    rw [T.wp_cond]
    exact ite_no (by decide) ⟨by decide, ⟨⟨rfl, rfl⟩, hs, by decide, by decide⟩, rfl, rfl⟩⟩



noncomputable def s_stepN : Summ cod := fun args H => match args, H with
  | [.c .nil, .agg [.int .i64 n, .int .i64 0, .str [115, 101, 116], .str [97, 32, 98]]], [] => .need ((n = 1)) (.ret (.tup [.c (.own 0 1), .c (.int .i64 0)], [.own 1 [([97], [98])] 56]))
  | _, _ => .fail


theorem stepN_sound : Sound Tryz.prog cod 20 s_stepN := sound_runs (cfg := C_run) L_run_ok mixed Tryz.func20 rfl rfl _ fun args H r news hg b0 hb => by
  unfold s_stepN at hg
  split at hg
  · skip
    simp only [T.gives, T.wp, Prod.mk.injEq] at hg
    obtain ⟨q0, rfl, rfl⟩ := hg
    exact stepN_run _ b0 hb (by assumption)
  · exact hg.elim

noncomputable def L_stepN : Sums cod := (20, .p s_stepN) :: L_run
noncomputable def C_stepN : Cfg cod := mkC L_stepN

theorem L_stepN_ok : Snd Tryz.prog cod L_stepN := .cons stepN_sound L_run_ok



def cuts_drec : Cuts := []

theorem drec_t0  : symF C_stepN cuts_drec Tryz.f5.results.toList 0 400 [.code (codeOf Tryz.f5)] ⟨argsS Tryz.f5 [], ([] : Heap cod)⟩ =
.need (((3 : Nat) ≤ 1000000000000000 ∧ (3 : Nat) ≤ 1000000000000000)) (
.need ((1 : Int) = 1) (
.need (((0 : Int) ≤ 0 ∧ (0 : Int) < Int.ofNat 1)) (
.need ((0 + Int.toNat 0 : Nat) < 1) (
.ret (.fin (.c (.bool (decide ([98] = [98])))) []))))) := by kernel_rfl



theorem drec_run  (b0 : Base) (hb : b0.n = 0)  : Sym.Runs Tryz.prog b0 [.code (codeOf Tryz.f5)] ⟨argsS Tryz.f5 [], ([] : Heap cod)⟩ (Sym.Ends Tryz.prog Tryz.f5 0 (.c (.bool true)) []) := by
  refine Runs.go (cfg := C_stepN) L_stepN_ok mixed cuts_drec 400 hb drec_t0 ?_
  exact ⟨⟨by decide, by decide⟩, rfl, ⟨by decide, by decide⟩, by decide, rfl, rfl⟩



noncomputable def s_drec : Summ cod := fun args H => match args, H with
  | [], [] => .ret (.c (.bool true), [])
  | _, _ => .fail


theorem drec_sound : Sound Tryz.prog cod 5 s_drec := sound_runs (cfg := C_stepN) L_stepN_ok mixed Tryz.func5 rfl rfl _ fun args H r news hg b0 hb => by
  unfold s_drec at hg
  split at hg
  · skip
    cases hg
    exact drec_run  b0 hb 
  · exact hg.elim

noncomputable def L_drec : Sums cod := (5, .p s_drec) :: L_stepN
noncomputable def C_drec : Cfg cod := mkC L_drec

theorem L_drec_ok : Snd Tryz.prog cod L_drec := .cons drec_sound L_stepN_ok


end
end Go.Proofs.YtiolfkmkbccndaaGreatDoor
end
