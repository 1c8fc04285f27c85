/- Part of a claim: lemmas on the way to its theorem; each states its own conditions. -/
import Derived.Test.YtkfkfihjdohjfaaTe
import Derived.Test.YtkfkfihjdohjfaaTz
import Derived.Test.YtkfkfihjdohjfaaSym34
import Derived.Test.YtkfkfihjdohjfaaBd35
namespace Go.Proofs.Ytkfkfihjdohjfaa
open Sym Go.RowKit
noncomputable section
set_option maxRecDepth 100000
set_option maxHeartbeats 4000000



noncomputable def s_insT : Summ cod := s_ins 1 26
noncomputable def s_delT : Summ cod := s_del 1 26


theorem insT_sound : SoundI Try.prog cod 48 s_insT := ins_sound ⟨fun args w => enters_fn Try.func48 rfl rfl args w, fun v n i vb vc xs vs tv w h1 h2 h3 h4 h5 h6 h7 h8 => st_insert v n i vb vc xs vs tv w h1 h2 h3 h4 h5 h6 h7 h8, fun A vb vc vs tv w h1 h2 h3 => st_insert0 A vb vc vs tv w h1 h2 h3⟩
theorem delT_sound : SoundI Try.prog cod 17 s_delT := del_sound (zs := [.string ⟨#[]⟩, .string ⟨#[]⟩, .int .i64 0, .int .i64 0, .int .i64 0]) ⟨fun args w => enters_fn Try.func17 rfl rfl args w, rfl, fun b n cap i cur w h1 h2 h3 h4 h5 h6 => st_delete b n cap i cur w h1 h2 h3 h4 h5 h6⟩

noncomputable def L_insT : Sums cod := (48, .i s_insT) :: L_bget
noncomputable def C_insT : Cfg cod := mkC L_insT

theorem L_insT_ok : Snd Try.prog cod L_insT := .consI insT_sound L_bget_ok


noncomputable def L_delT : Sums cod := (17, .i s_delT) :: L_insT
noncomputable def C_delT : Cfg cod := mkC L_delT

theorem L_delT_ok : Snd Try.prog cod L_delT := .consI delT_sound L_insT_ok



namespace F
def stk (c f : List UInt8) (t h b : Int) : St := (c, f, t, h, b)
def putE (l : List St) (c f : List UInt8) (t h b : Int) : Int := if chkS c f t h b = 0 then (if 0 ≤ idx l c then 7 else (if 16 ≤ (cnt l b : Int) then 9 else 0)) else chkS c f t h b
def putL (l : List St) (c f : List UInt8) (t h b : Int) : List St := if putE l c f t h b = 0 then l ++ [stk c f t h b] else l
def movE (l : List St) (c : List UInt8) (b : Int) : Int := if nob b then 4 else (if idx l c < 0 then 8 else (if prm (gt5 l c) b then (if 16 ≤ (cnt l b : Int) then 9 else 0) else 11))
def inBay (x : St) (b : Int) : St := (x.1, x.2.1, x.2.2.1, x.2.2.2.1, b)
def movL (l : List St) (c : List UInt8) (b : Int) : List St := if movE l c b = 0 then l.set (idx l c).toNat (inBay (gt l c) b) else l
def chgE (l : List St) (c f : List UInt8) (t h b : Int) : Int := if chkS c f t h b = 0 then (if idx l c < 0 then 8 else (if gt5 l c = 3 then 11 else (if gt5 l c = b then 0 else 11))) else chkS c f t h b
def chgL (l : List St) (c f : List UInt8) (t h b : Int) : List St := if chgE l c f t h b = 0 then l.set (idx l c).toNat (stk c f t h b) else l
def remE (l : List St) (c : List UInt8) : Int := if idx l c < 0 then 8 else (if gt5 l c = 3 then 0 else 11)
def remL (l : List St) (c : List UInt8) : List St := if remE l c = 0 then l.eraseIdx (idx l c).toNat else l
end F


def cuts_bput : Cuts := [(100009, [], 9)]
def cuts_bput_r9 : Cuts := []

theorem bput_t0 (l : List (List UInt8 × List UInt8 × Int × Int × Int)) (c f : List UInt8) (t h b : Int) : symI C_delT cuts_bput Try.f12.results.toList ([.blk [.own 1 (List.length l)] 71, .own 1 l 26] : Heap cod) 400 [.code (codeOf Try.f12)] ⟨argsS Try.f12 [.c (.ptr 0 0 0), .agg [.str c, .str f, .int .i64 t, .int .i64 h, .int .i64 b]], ([.blk [.own 1 (List.length l)] 71, .own 1 l 26] : Heap cod)⟩ =
 cond (!decide (F.chkS c f t h b = 0)) (
 .ret (.fin (.c (.int .i64 (F.chkS c f t h b))) [.blk [.own 1 (List.length l)] 71, .own 1 l 26])) (
 .need (((0 = 0 ∧ List.length l = List.length l) ∧ List.length l ≤ 100000)) (
 cond (decide (0 ≤ F.idx l c)) (
  .ret (.fin (.c (.int .i64 7)) [.blk [.own 1 (List.length l)] 71, .own 1 l 26])) (
  .need (((0 = 0 ∧ List.length l = List.length l) ∧ (F.okB l ∧ List.length l ≤ 100000))) (
  cond (decide (16 ≤ Int.ofNat (F.cnt l b))) (
   .ret (.fin (.c (.int .i64 9)) [.blk [.own 1 (List.length l)] 71, .own 1 l 26])) (
   .need (1 = 1) (
   .need (List.length l + 1 ≤ 1000000) (
   .ret (.cut (regAt Try.f12 9) ⟨tmG 32 [], [.blk [.own 4 (List.length l + 1)] 71, .dead, .blk [.str c, .str f, .int .i64 t, .int .i64 h, .int .i64 b] 26, .arr 1 ([(c, f, t, h, b)]) 26, .own 1 (l ++ ([(c, f, t, h, b)])) 26]⟩)))))))) := by kernel_rfl


noncomputable def st_bput_r9 (l : List (List UInt8 × List UInt8 × Int × Int × Int)) (c f : List UInt8) (t h b : Int) (ts : List (List UInt8 × List UInt8 × Int × Int × Int)) (q : Nat) : St cod := ⟨tmG 32 [], ([.blk [.own 1 q] 71, .own 1 ts 26, .blk [.str c, .str f, .int .i64 t, .int .i64 h, .int .i64 b] 26, .arr 1 [(c, f, t, h, b)] 26, .dead] : Heap cod)⟩


theorem bput_tr9 (l : List (List UInt8 × List UInt8 × Int × Int × Int)) (c f : List UInt8) (t h b : Int) (ts : List (List UInt8 × List UInt8 × Int × Int × Int)) (q : Nat) : symI C_delT cuts_bput_r9 Try.f12.results.toList ([.blk [.own 1 (List.length l)] 71, .own 1 l 26] : Heap cod) 400 (regAt Try.f12 9) (st_bput_r9 l c f t h b ts q) =
.ret (.fin (.c (.int .i64 0)) [.blk [.own 1 (q)] 71, .own 1 ts 26]) := by kernel_rfl



theorem bput_run (l : List (List UInt8 × List UInt8 × Int × Int × Int)) (c f : List UInt8) (t h b : Int) (b0 : Base) (hb : b0.n = 2) (h0 : F.okB l) (h1 : l.length ≤ 1000) : Sym.Runs Try.prog b0 [.code (codeOf Try.f12)] ⟨argsS Try.f12 [.c (.ptr 0 0 0), .agg [.str c, .str f, .int .i64 t, .int .i64 h, .int .i64 b]], ([.blk [.own 1 (List.length l)] 71, .own 1 l 26] : Heap cod)⟩ (Sym.EndsI Try.prog Try.f12 ([.blk [.own 1 (List.length l)] 71, .own 1 l 26] : Heap cod) (.c (.int .i64 (F.putE l c f t h b))) [.blk [.own 1 (List.length (F.putL l c f t h b))] 71, .own 1 (F.putL l c f t h b) 26]) := by
  refine Runs.knows 1 hb (by decide) rfl (fun ho => ?_)
  refine Runs.goI (cfg := C_delT) L_delT_ok mixed cuts_bput 400 (H := ([.blk [.own 1 (List.length l)] 71, .own 1 l 26] : Heap cod)) hb (bput_t0 l c f t h b) ?_
  simp only [T.wp, T.wp_cond, Aft, Int.ofNat_eq_natCast, decide_eq_true_eq, and_true, true_and, Nat.zero_add, Bool.not_eq_true', decide_eq_false_iff_not]
  by_cases c1 : F.chkS c f t h b = 0
  · refine ite_no (fun q => q c1) ⟨by omega, ?_⟩
    by_cases c2 : 0 ≤ F.idx l c
    · have eE : F.putE l c f t h b = 7 := by unfold F.putE; rw [if_pos c1, if_pos c2]
      have eL : F.putL l c f t h b = l := by unfold F.putL; rw [if_neg (by rw [eE]; decide)]
      rw [eE, eL]
      exact ite_yes c2 ⟨rfl, rfl⟩
    · refine ite_no c2 ⟨⟨h0, by omega⟩, ?_⟩
      by_cases c3 : 16 ≤ (F.cnt l b : Int)
      · have eE : F.putE l c f t h b = 9 := by unfold F.putE; rw [if_pos c1, if_neg c2, if_pos c3]
        have eL : F.putL l c f t h b = l := by unfold F.putL; rw [if_neg (by rw [eE]; decide)]
        rw [eE, eL]
        exact ite_yes c3 ⟨rfl, rfl⟩
      · have eE : F.putE l c f t h b = 0 := by unfold F.putE; rw [if_pos c1, if_neg c2, if_neg c3]
        have eL : F.putL l c f t h b = l ++ [(c, f, t, h, b)] := by unfold F.putL; rw [if_pos eE]; rfl
        have en : (l ++ [(c, f, t, h, b)]).length = l.length + 1 := by simp
        rw [eE, eL, en]
        refine ite_no c3 ⟨by omega, ?_⟩
        refine Runs.back 1 4 hb (by decide) (by decide) (by simp) rfl ho (st' := st_bput_r9 l c f t h b (l ++ [(c, f, t, h, b)]) (l.length + 1)) rfl ?_
        refine Runs.goI (cfg := C_delT) L_delT_ok mixed cuts_bput_r9 400 (H := ([.blk [.own 1 (List.length l)] 71, .own 1 l 26] : Heap cod)) hb (bput_tr9 l c f t h b _ _) ?_
        exact ⟨rfl, rfl⟩
  · have eE : F.putE l c f t h b = F.chkS c f t h b := by unfold F.putE; rw [if_neg c1]
    have eL : F.putL l c f t h b = l := by unfold F.putL; rw [if_neg (by rw [eE]; exact c1)]
    rw [eE, eL]
    exact ite_yes c1 ⟨rfl, rfl⟩



noncomputable def s_bput : Summ cod := fun args H => match args, H with
  | [.c (.ptr 0 0 0), .agg [.str c, .str f, .int .i64 t, .int .i64 h, .int .i64 b]], [.blk [.own 1 q] 71, o1] => (match o1.asOwn 1 26 with | some l => .need ((.blk [.own 1 q] 71 : HObj cod) = .blk [.own 1 (List.length l)] 71) (.need ((F.okB l) ∧ (l.length ≤ 1000)) (.ret (.c (.int .i64 (F.putE l c f t h b)), [.blk [.own 1 (List.length (F.putL l c f t h b))] 71, .own 1 (F.putL l c f t h b) 26]))) | none => .fail)
  | _, _ => .fail


theorem bput_sound : SoundI Try.prog cod 12 s_bput := tree_soundI (cfg := C_delT) Try.func12 rfl rfl _ fun args H r H' hg b0 hb => by
  unfold s_bput at hg
  split at hg
  · skip
    split at hg
    · rename_i l hx1
      cases asOwn_spec hx1
      obtain ⟨ot0, hg⟩ := hg
      cases ot0
      obtain ⟨hq, hg⟩ := hg
      obtain ⟨q0, q1⟩ := hq
      cases hg
      exact bput_run _ _ _ _ _ _ b0 hb (by assumption) (by assumption)
    · exact hg.elim
  · exact hg.elim

noncomputable def L_bput : Sums cod := (12, .i s_bput) :: L_delT
noncomputable def C_bput : Cfg cod := mkC L_bput

theorem L_bput_ok : Snd Try.prog cod L_bput := .consI bput_sound L_delT_ok



def cuts_bmov : Cuts := []

theorem bmov_t0 (l : List (List UInt8 × List UInt8 × Int × Int × Int)) (c : List UInt8) (b : Int) : symI C_bput cuts_bmov Try.f13.results.toList ([.blk [.own 1 (List.length l)] 71, .own 1 l 26] : Heap cod) 400 [.code (codeOf Try.f13)] ⟨argsS Try.f13 [.c (.ptr 0 0 0), .c (.str c), .c (.int .i64 b)], ([.blk [.own 1 (List.length l)] 71, .own 1 l 26] : Heap cod)⟩ =
.need (((0 = 0 ∧ List.length l = List.length l) ∧ List.length l ≤ 100000)) (
 cond (F.nob b) (
 .ret (.fin (.c (.int .i64 4)) [.blk [.own 1 (List.length l)] 71, .own 1 l 26])) (
 cond (decide (F.idx l c < 0)) (
  .ret (.fin (.c (.int .i64 8)) [.blk [.own 1 (List.length l)] 71, .own 1 l 26])) (
  .need (((0 : Int) ≤ F.idx l c ∧ F.idx l c < Int.ofNat (List.length l))) (
  .need (0 + Int.toNat (F.idx l c) < List.length l) (
  cond (!F.prm (List.getD l (0 + Int.toNat (F.idx l c)) (cod 1).d).2.2.2.2 b) (
   .ret (.fin (.c (.int .i64 11)) [.blk [.own 1 (List.length l)] 71, .own 1 l 26])) (
   .need (((0 = 0 ∧ List.length l = List.length l) ∧ (F.okB l ∧ List.length l ≤ 100000))) (
   cond (decide (16 ≤ Int.ofNat (F.cnt l b))) (
    .ret (.fin (.c (.int .i64 9)) [.blk [.own 1 (List.length l)] 71, .own 1 l 26])) (
    .need (((0 : Int) ≤ F.idx l c ∧ F.idx l c < Int.ofNat (List.length l))) (
    .need (0 + Int.toNat (F.idx l c) < List.length l) (
    .ret (.fin (.c (.int .i64 0)) [.blk [.own 1 (List.length l)] 71, .own 1 (List.set l (0 + Int.toNat (F.idx l c))   ((List.getD l (0 + Int.toNat (F.idx l c)) (cod 1).d).1, (List.getD l (0 + Int.toNat (F.idx l c)) (cod 1).d).2.1,     (List.getD l (0 + Int.toNat (F.idx l c)) (cod 1).d).2.2.1,     (List.getD l (0 + Int.toNat (F.idx l c)) (cod 1).d).2.2.2.1, b)) 26]))))))))))) := by kernel_rfl



theorem bmov_run (l : List (List UInt8 × List UInt8 × Int × Int × Int)) (c : List UInt8) (b : Int) (b0 : Base) (hb : b0.n = 2) (h0 : F.okB l) (h1 : l.length ≤ 1000) : Sym.Runs Try.prog b0 [.code (codeOf Try.f13)] ⟨argsS Try.f13 [.c (.ptr 0 0 0), .c (.str c), .c (.int .i64 b)], ([.blk [.own 1 (List.length l)] 71, .own 1 l 26] : Heap cod)⟩ (Sym.EndsI Try.prog Try.f13 ([.blk [.own 1 (List.length l)] 71, .own 1 l 26] : Heap cod) (.c (.int .i64 (F.movE l c b))) [.blk [.own 1 (List.length (F.movL l c b))] 71, .own 1 (F.movL l c b) 26]) := by
  refine Runs.goI (cfg := C_bput) L_bput_ok mixed cuts_bmov 400 (H := ([.blk [.own 1 (List.length l)] 71, .own 1 l 26] : Heap cod)) hb (bmov_t0 l c b) ?_
  have hlt := idx_lt l c
  simp only [T.wp, T.wp_cond, Aft, Int.ofNat_eq_natCast, decide_eq_true_eq, and_true, true_and, Nat.zero_add, Bool.not_eq_true', decide_eq_false_iff_not, Nat.zero_add]
  refine ⟨by omega, ?_⟩
  have bad : ∀ n : Int, n ≠ 0 → F.movE l c b = n → (SV.c (.int .i64 n) : SV) = .c (.int .i64 (F.movE l c b)) ∧ ([.blk [.own 1 (List.length l)] 71, .own 1 l 26] : Heap cod) = [.blk [.own 1 (List.length (F.movL l c b))] 71, .own 1 (F.movL l c b) 26] := by
    intro n hn eE
    have eL : F.movL l c b = l := by unfold F.movL; rw [if_neg (by rw [eE]; exact hn)]
    rw [eE, eL]
    exact ⟨rfl, rfl⟩
  cases c1 : F.nob b with
  | true => exact ite_yes rfl (bad 4 (by decide) (by unfold F.movE; rw [c1]; rfl))
  | false =>
    refine ite_no (by decide) ?_
    by_cases c2 : F.idx l c < 0
    · exact ite_yes c2 (bad 8 (by decide) (by unfold F.movE; rw [c1, if_neg (by decide), if_pos c2]))
    have hn : 0 ≤ F.idx l c := by omega
    have eg : F.gt l c = l.getD (F.idx l c).toNat (cod 1).d := by unfold F.gt; rw [if_pos hn]; rfl
    have e5 : F.gt5 l c = (l.getD (F.idx l c).toNat (cod 1).d).2.2.2.2 := by unfold F.gt5; rw [eg]
    refine ite_no c2 ⟨⟨hn, hlt⟩, by omega, ?_⟩
    rw [← e5]
    cases c3 : F.prm (F.gt5 l c) b with
    | false => exact ite_yes rfl (bad 11 (by decide) (by unfold F.movE; rw [c1, if_neg (by decide), if_neg c2, c3]; rfl))
    | true =>
      refine ite_no (by decide) ⟨⟨h0, by omega⟩, ?_⟩
      by_cases c4 : 16 ≤ (F.cnt l b : Int)
      · exact ite_yes c4 (bad 9 (by decide) (by unfold F.movE; rw [c1, if_neg (by decide), if_neg c2, c3, if_pos rfl, if_pos c4]))
      · have eE : F.movE l c b = 0 := by unfold F.movE; rw [c1, if_neg (by decide), if_neg c2, c3, if_pos rfl, if_neg c4]
        have eL : F.movL l c b = l.set (F.idx l c).toNat (F.inBay (F.gt l c) b) := by unfold F.movL; rw [if_pos eE]
        rw [eE, eL, eg, List.length_set]
        exact ite_no c4 ⟨⟨hn, hlt⟩, by omega, rfl, rfl⟩



noncomputable def s_bmov : Summ cod := fun args H => match args, H with
  | [.c (.ptr 0 0 0), .c (.str c), .c (.int .i64 b)], [.blk [.own 1 q] 71, o1] => (match o1.asOwn 1 26 with | some l => .need ((.blk [.own 1 q] 71 : HObj cod) = .blk [.own 1 (List.length l)] 71) (.need ((F.okB l) ∧ (l.length ≤ 1000)) (.ret (.c (.int .i64 (F.movE l c b)), [.blk [.own 1 (List.length (F.movL l c b))] 71, .own 1 (F.movL l c b) 26]))) | none => .fail)
  | _, _ => .fail


theorem bmov_sound : SoundI Try.prog cod 13 s_bmov := tree_soundI (cfg := C_bput) Try.func13 rfl rfl _ fun args H r H' hg b0 hb => by
  unfold s_bmov at hg
  split at hg
  · skip
    split at hg
    · rename_i l hx1
      cases asOwn_spec hx1
      obtain ⟨ot0, hg⟩ := hg
      cases ot0
      obtain ⟨hq, hg⟩ := hg
      obtain ⟨q0, q1⟩ := hq
      cases hg
      exact bmov_run _ _ _ b0 hb (by assumption) (by assumption)
    · exact hg.elim
  · exact hg.elim

noncomputable def L_bmov : Sums cod := (13, .i s_bmov) :: L_bput
noncomputable def C_bmov : Cfg cod := mkC L_bmov

theorem L_bmov_ok : Snd Try.prog cod L_bmov := .consI bmov_sound L_bput_ok



def cuts_bchg : Cuts := []

theorem bchg_t0 (l : List (List UInt8 × List UInt8 × Int × Int × Int)) (c f : List UInt8) (t h b : Int) : symI C_bmov cuts_bchg Try.f15.results.toList ([.blk [.own 1 (List.length l)] 71, .own 1 l 26] : Heap cod) 400 [.code (codeOf Try.f15)] ⟨argsS Try.f15 [.c (.ptr 0 0 0), .agg [.str c, .str f, .int .i64 t, .int .i64 h, .int .i64 b]], ([.blk [.own 1 (List.length l)] 71, .own 1 l 26] : Heap cod)⟩ =
 cond (!decide (F.chkS c f t h b = 0)) (
 .ret (.fin (.c (.int .i64 (F.chkS c f t h b))) [.blk [.own 1 (List.length l)] 71, .own 1 l 26])) (
 .need (((0 = 0 ∧ List.length l = List.length l) ∧ List.length l ≤ 100000)) (
 cond (decide (F.idx l c < 0)) (
  .ret (.fin (.c (.int .i64 8)) [.blk [.own 1 (List.length l)] 71, .own 1 l 26])) (
  .need (((0 : Int) ≤ F.idx l c ∧ F.idx l c < Int.ofNat (List.length l))) (
  .need (0 + Int.toNat (F.idx l c) < List.length l) (
  cond (decide ((List.getD l (0 + Int.toNat (F.idx l c)) (cod 1).d).2.2.2.2 = 3)) (
   .ret (.fin (.c (.int .i64 11)) [.blk [.own 1 (List.length l)] 71, .own 1 l 26])) (
   .need (((0 : Int) ≤ F.idx l c ∧ F.idx l c < Int.ofNat (List.length l))) (
   .need (0 + Int.toNat (F.idx l c) < List.length l) (
   cond (!decide ((List.getD l (0 + Int.toNat (F.idx l c)) (cod 1).d).2.2.2.2 = b)) (
    .ret (.fin (.c (.int .i64 11)) [.blk [.own 1 (List.length l)] 71, .own 1 l 26])) (
    .need (((0 : Int) ≤ F.idx l c ∧ F.idx l c < Int.ofNat (List.length l))) (
    .need (0 + Int.toNat (F.idx l c) < List.length l) (
    .ret (.fin (.c (.int .i64 0)) [.blk [.own 1 (List.length l)] 71, .own 1 (List.set l (0 + Int.toNat (F.idx l c)) (c, f, t, h, b)) 26])))))))))))) := by kernel_rfl



theorem bchg_run (l : List (List UInt8 × List UInt8 × Int × Int × Int)) (c f : List UInt8) (t h b : Int) (b0 : Base) (hb : b0.n = 2) (h0 : l.length ≤ 1000) : Sym.Runs Try.prog b0 [.code (codeOf Try.f15)] ⟨argsS Try.f15 [.c (.ptr 0 0 0), .agg [.str c, .str f, .int .i64 t, .int .i64 h, .int .i64 b]], ([.blk [.own 1 (List.length l)] 71, .own 1 l 26] : Heap cod)⟩ (Sym.EndsI Try.prog Try.f15 ([.blk [.own 1 (List.length l)] 71, .own 1 l 26] : Heap cod) (.c (.int .i64 (F.chgE l c f t h b))) [.blk [.own 1 (List.length (F.chgL l c f t h b))] 71, .own 1 (F.chgL l c f t h b) 26]) := by
  refine Runs.goI (cfg := C_bmov) L_bmov_ok mixed cuts_bchg 400 (H := ([.blk [.own 1 (List.length l)] 71, .own 1 l 26] : Heap cod)) hb (bchg_t0 l c f t h b) ?_
  have hlt := idx_lt l c
  simp only [T.wp, T.wp_cond, Aft, Int.ofNat_eq_natCast, decide_eq_true_eq, and_true, true_and, Nat.zero_add, Bool.not_eq_true', decide_eq_false_iff_not, Nat.zero_add]
  have bad : ∀ n : Int, n ≠ 0 → F.chgE l c f t h b = n → (SV.c (.int .i64 n) : SV) = .c (.int .i64 (F.chgE l c f t h b)) ∧ ([.blk [.own 1 (List.length l)] 71, .own 1 l 26] : Heap cod) = [.blk [.own 1 (List.length (F.chgL l c f t h b))] 71, .own 1 (F.chgL l c f t h b) 26] := by
    intro n hn eE
    have eL : F.chgL l c f t h b = l := by unfold F.chgL; rw [if_neg (by rw [eE]; exact hn)]
    rw [eE, eL]
    exact ⟨rfl, rfl⟩
  by_cases c1 : F.chkS c f t h b = 0
  · refine ite_no (fun q => q c1) ⟨by omega, ?_⟩
    by_cases c2 : F.idx l c < 0
    · exact ite_yes c2 (bad 8 (by decide) (by unfold F.chgE; rw [if_pos c1, if_pos c2]))
    have hn : 0 ≤ F.idx l c := by omega
    have eg : F.gt l c = l.getD (F.idx l c).toNat (cod 1).d := by unfold F.gt; rw [if_pos hn]; rfl
    have e5 : F.gt5 l c = (l.getD (F.idx l c).toNat (cod 1).d).2.2.2.2 := by unfold F.gt5; rw [eg]
    refine ite_no c2 ⟨⟨hn, hlt⟩, by omega, ?_⟩
    rw [← e5]
    by_cases c3 : F.gt5 l c = 3
    · exact ite_yes c3 (bad 11 (by decide) (by unfold F.chgE; rw [if_pos c1, if_neg c2, if_pos c3]))
    refine ite_no c3 ⟨⟨hn, hlt⟩, by omega, ?_⟩
    by_cases c4 : F.gt5 l c = b
    · have eE : F.chgE l c f t h b = 0 := by unfold F.chgE; rw [if_pos c1, if_neg c2, if_neg c3, if_pos c4]
      have eL : F.chgL l c f t h b = l.set (F.idx l c).toNat (F.stk c f t h b) := by unfold F.chgL; rw [if_pos eE]
      rw [eE, eL, List.length_set]
      exact ite_no (fun q => q c4) ⟨⟨hn, hlt⟩, by omega, rfl, rfl⟩
    · exact ite_yes c4 (bad 11 (by decide) (by unfold F.chgE; rw [if_pos c1, if_neg c2, if_neg c3, if_neg c4]))
  · exact ite_yes c1 (bad _ c1 (by unfold F.chgE; rw [if_neg c1]))



noncomputable def s_bchg : Summ cod := fun args H => match args, H with
  | [.c (.ptr 0 0 0), .agg [.str c, .str f, .int .i64 t, .int .i64 h, .int .i64 b]], [.blk [.own 1 q] 71, o1] => (match o1.asOwn 1 26 with | some l => .need ((.blk [.own 1 q] 71 : HObj cod) = .blk [.own 1 (List.length l)] 71) (.need ((l.length ≤ 1000)) (.ret (.c (.int .i64 (F.chgE l c f t h b)), [.blk [.own 1 (List.length (F.chgL l c f t h b))] 71, .own 1 (F.chgL l c f t h b) 26]))) | none => .fail)
  | _, _ => .fail


theorem bchg_sound : SoundI Try.prog cod 15 s_bchg := tree_soundI (cfg := C_bmov) Try.func15 rfl rfl _ fun args H r H' hg b0 hb => by
  unfold s_bchg at hg
  split at hg
  · skip
    split at hg
    · rename_i l hx1
      cases asOwn_spec hx1
      obtain ⟨ot0, hg⟩ := hg
      cases ot0
      obtain ⟨hq, hg⟩ := hg
      have q0 := hq
      cases hg
      exact bchg_run _ _ _ _ _ _ b0 hb (by assumption)
    · exact hg.elim
  · exact hg.elim

noncomputable def L_bchg : Sums cod := (15, .i s_bchg) :: L_bmov
noncomputable def C_bchg : Cfg cod := mkC L_bchg

theorem L_bchg_ok : Snd Try.prog cod L_bchg := .consI bchg_sound L_bmov_ok



def cuts_brem : Cuts := []

theorem brem_t0 (l : List (List UInt8 × List UInt8 × Int × Int × Int)) (c : List UInt8) : symI C_bchg cuts_brem Try.f16.results.toList ([.blk [.own 1 (List.length l)] 71, .own 1 l 26] : Heap cod) 400 [.code (codeOf Try.f16)] ⟨argsS Try.f16 [.c (.ptr 0 0 0), .c (.str c)], ([.blk [.own 1 (List.length l)] 71, .own 1 l 26] : Heap cod)⟩ =
.need (((0 = 0 ∧ List.length l = List.length l) ∧ List.length l ≤ 100000)) (
 cond (decide (F.idx l c < 0)) (
 .ret (.fin (.c (.int .i64 8)) [.blk [.own 1 (List.length l)] 71, .own 1 l 26])) (
 .need (((0 : Int) ≤ F.idx l c ∧ F.idx l c < Int.ofNat (List.length l))) (
 .need (0 + Int.toNat (F.idx l c) < List.length l) (
 cond (!decide ((List.getD l (0 + Int.toNat (F.idx l c)) (cod 1).d).2.2.2.2 = 3)) (
  .ret (.fin (.c (.int .i64 11)) [.blk [.own 1 (List.length l)] 71, .own 1 l 26])) (
  .need (i64ok (F.idx l c + 1)) (
  .need (((0 : Int) ≤ F.idx l c ∧ (F.idx l c < Int.ofNat (List.length l) ∧ F.idx l c + 1 = F.idx l c + 1))) (
  .ret (.fin (.c (.int .i64 0)) [.blk [.own 1 (List.length l - 1)] 71, .own 1 (List.eraseIdx l (Int.toNat (F.idx l c))) 26])))))))) := by kernel_rfl



theorem brem_run (l : List (List UInt8 × List UInt8 × Int × Int × Int)) (c : List UInt8) (b0 : Base) (hb : b0.n = 2) (h0 : l.length ≤ 1000) : Sym.Runs Try.prog b0 [.code (codeOf Try.f16)] ⟨argsS Try.f16 [.c (.ptr 0 0 0), .c (.str c)], ([.blk [.own 1 (List.length l)] 71, .own 1 l 26] : Heap cod)⟩ (Sym.EndsI Try.prog Try.f16 ([.blk [.own 1 (List.length l)] 71, .own 1 l 26] : Heap cod) (.c (.int .i64 (F.remE l c))) [.blk [.own 1 (List.length (F.remL l c))] 71, .own 1 (F.remL l c) 26]) := by
  refine Runs.goI (cfg := C_bchg) L_bchg_ok mixed cuts_brem 400 (H := ([.blk [.own 1 (List.length l)] 71, .own 1 l 26] : Heap cod)) hb (brem_t0 l c) ?_
  have hlt := idx_lt l c
  simp only [T.wp, T.wp_cond, Aft, Int.ofNat_eq_natCast, decide_eq_true_eq, and_true, true_and, Nat.zero_add, Bool.not_eq_true', decide_eq_false_iff_not, Nat.zero_add]
  refine ⟨by omega, ?_⟩
  have bad : ∀ n : Int, n ≠ 0 → F.remE l c = n → (SV.c (.int .i64 n) : SV) = .c (.int .i64 (F.remE l c)) ∧ ([.blk [.own 1 (List.length l)] 71, .own 1 l 26] : Heap cod) = [.blk [.own 1 (List.length (F.remL l c))] 71, .own 1 (F.remL l c) 26] := by
    intro n hn eE
    have eL : F.remL l c = l := by unfold F.remL; rw [if_neg (by rw [eE]; exact hn)]
    rw [eE, eL]
    exact ⟨rfl, rfl⟩
  by_cases c2 : F.idx l c < 0
  · exact ite_yes c2 (bad 8 (by decide) (by unfold F.remE; rw [if_pos c2]))
  have hn : 0 ≤ F.idx l c := by omega
  have eg : F.gt l c = l.getD (F.idx l c).toNat (cod 1).d := by unfold F.gt; rw [if_pos hn]; rfl
  have e5 : F.gt5 l c = (l.getD (F.idx l c).toNat (cod 1).d).2.2.2.2 := by unfold F.gt5; rw [eg]
  refine ite_no c2 ⟨⟨hn, hlt⟩, by omega, ?_⟩
  rw [← e5]
  by_cases c3 : F.gt5 l c = 3
  · have eE : F.remE l c = 0 := by unfold F.remE; rw [if_neg c2, if_pos c3]
    have eL : F.remL l c = l.eraseIdx (F.idx l c).toNat := by unfold F.remL; rw [if_pos eE]
    rw [eE, eL, List.length_eraseIdx_of_lt (by omega)]
    exact ite_no (fun q => q c3) ⟨by unfold i64ok; omega, ⟨hn, hlt⟩, rfl, rfl⟩
  · exact ite_yes c3 (bad 11 (by decide) (by unfold F.remE; rw [if_neg c2, if_neg c3]))



noncomputable def s_brem : Summ cod := fun args H => match args, H with
  | [.c (.ptr 0 0 0), .c (.str c)], [.blk [.own 1 q] 71, o1] => (match o1.asOwn 1 26 with | some l => .need ((.blk [.own 1 q] 71 : HObj cod) = .blk [.own 1 (List.length l)] 71) (.need ((l.length ≤ 1000)) (.ret (.c (.int .i64 (F.remE l c)), [.blk [.own 1 (List.length (F.remL l c))] 71, .own 1 (F.remL l c) 26]))) | none => .fail)
  | _, _ => .fail


theorem brem_sound : SoundI Try.prog cod 16 s_brem := tree_soundI (cfg := C_bchg) Try.func16 rfl rfl _ fun args H r H' hg b0 hb => by
  unfold s_brem at hg
  split at hg
  · skip
    split at hg
    · rename_i l hx1
      cases asOwn_spec hx1
      obtain ⟨ot0, hg⟩ := hg
      cases ot0
      obtain ⟨hq, hg⟩ := hg
      have q0 := hq
      cases hg
      exact brem_run _ _ b0 hb (by assumption)
    · exact hg.elim
  · exact hg.elim

noncomputable def L_brem : Sums cod := (16, .i s_brem) :: L_bchg
noncomputable def C_brem : Cfg cod := mkC L_brem

theorem L_brem_ok : Snd Try.prog cod L_brem := .consI brem_sound L_bchg_ok


end
end Go.Proofs.Ytkfkfihjdohjfaa
