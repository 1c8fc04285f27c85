/- Parts of the proof, one behind the other: Wg, Wh. -/
import Derived.Test.YtbkpgpkeecnjpaaWf
section
namespace Go.Proofs.Ytbkpgpkeecnjpaa
open Sym Go.RowKit
noncomputable section
set_option maxRecDepth 100000
set_option maxHeartbeats 4000000



namespace F
def sw : List Int := [83, 87]
def str (l : List Int) : List UInt8 := l.map fun n => UInt8.ofNat n.toNat
def encS (r t : Int) (l : List (Int × Int × Int × Int × Int × Int)) : List UInt8 := if chk r t l = 0 then frame r t l else []
end F


theorem str_bts (n : Int) : ∀ k : Nat, F.str (F.bts n k) = F.byt n k := by
  intro k
  induction k generalizing n with
  | zero => rfl
  | succ k ih =>
    rw [F.bts, F.byt, ← ih, F.str, List.map_append]
    rfl
theorem str_put (l : List Int) (n : Int) (k : Nat) : F.str (F.put l n k) = F.str l ++ F.byt n k := by
  rw [F.put, F.str, List.map_append, ← str_bts]
  rfl
theorem put_len (l : List Int) (n : Int) (k : Nat) : (F.put l n k).length = l.length + k := by
  rw [F.put, List.length_append, bts_len]


def cuts_wenc : Cuts := [(8, [33, 34, 35, 5], 4)]

theorem wenc_t0 (r t : Int) (l : List (Int × Int × Int × Int × Int × Int)) (l_t : Bool) : symF C_rfr cuts_wenc Try.f10.results.toList 1 400 [.code (codeOf Try.f10)] ⟨argsS Try.f10 [.agg [.int .i64 r, .int .i64 t, .slc 0 0 (List.length l) l_t]], ([.inp 2 l] : Heap cod)⟩ =
.need ((0 = 0 ∧ List.length l = List.length l)) (
 cond (!decide (F.chk r t l = 0)) (
 .ret (.fin (.tup [.c (.str []), .c (.int .i64 (F.chk r t l))]) [])) (
 .need ((SV.c (Cell.slc 0 0 2 true) : SV) = SV.c (Cell.slc 0 0 2 true)) (
 .need (2 = 2) (
 .need ((SV.c (Cell.own 0 3) : SV) = SV.c (Cell.own 0 3)) (
 .need ((((0 : Int) ≤ 4 ∧ (4 : Int) ≤ 8) ∧ (3 : Nat) ≤ 100000)) (
 .need ((SV.c (Cell.own 0 7) : SV) = SV.c (Cell.own 0 7)) (
 .need ((((0 : Int) ≤ 2 ∧ (2 : Int) ≤ 8) ∧ (7 : Nat) ≤ 100000)) (
 .ret (.cut (cutAt Try.f10 8) ⟨tmG 36 [(5, .c (.own 3 9)), (27, .c (.slc 0 0 (List.length l) l_t)), (0, .c (.int .i64 (Int.ofNat (List.length l)))), (0, .c (.int .i64 0))], [.inp 2 l, .blk [.int .i64 r, .int .i64 t, .slc 0 0 (List.length l) l_t] 24, .inp 4 ([83, 87] : List Int), .own 4 (F.put (F.put (F.put [83, 87] (IntKind.wrap IntKind.u64 r) 1) (IntKind.wrap IntKind.u64 t) (Int.toNat 4))   (IntKind.wrap IntKind.u64 (Int.ofNat (List.length l))) (Int.toNat 2) : List Int) 5]⟩))))))))) := by kernel_rfl


noncomputable def st_wenc_8 (r t : Int) (l : List (Int × Int × Int × Int × Int × Int)) (l_t : Bool) (j : Int) (bs : List Int) : St cod := ⟨tmG 36 [(5, .c (.own 3 (List.length bs))), (27, .c (.slc 0 0 (List.length l) l_t)), (0, .c (.int .i64 (Int.ofNat (List.length l)))), (0, .c (.int .i64 j))], ([.inp 2 l, .blk [.int .i64 r, .int .i64 t, .slc 0 0 (List.length l) l_t] 24, .inp 4 F.sw, .own 4 bs 5] : Heap cod)⟩


theorem wenc_t8 (r t : Int) (l : List (Int × Int × Int × Int × Int × Int)) (l_t : Bool) (j : Int) (bs : List Int) : symF C_rfr cuts_wenc Try.f10.results.toList 1 400 (cutAt Try.f10 8) (st_wenc_8 r t l l_t j bs) =
 cond (decide (j < Int.ofNat (List.length l))) (
 .need (((0 : Int) ≤ j ∧ j < Int.ofNat (List.length l))) (
 .need (0 + Int.toNat j < List.length l) (
 .need ((((0 : Int) ≤ (List.getD l (0 + Int.toNat j) (cod 2).d).2.2.1 ∧ (List.getD l (0 + Int.toNat j) (cod 2).d).2.2.1 ≤ 2000000) ∧ (0 : Int) = 0)) (
 .need (SV.c (Cell.own 0 (List.length bs)) = SV.c (Cell.own 0 (List.length bs))) (
 .need ((((0 : Int) ≤ 8 ∧ (8 : Int) ≤ 8) ∧ List.length bs ≤ 100000)) (
 .need (SV.c     (Cell.own 0       (List.length         (F.put bs (Int.ofNat (F.i2f FloatKind.f64 (List.getD l (0 + Int.toNat j) (cod 2).d).2.2.1)) (Int.toNat 8)))) =   SV.c     (Cell.own 0       (List.length         (F.put bs (Int.ofNat (F.i2f FloatKind.f64 (List.getD l (0 + Int.toNat j) (cod 2).d).2.2.1)) (Int.toNat 8))))) (
 .need ((((0 : Int) ≤ 2 ∧ (2 : Int) ≤ 8) ∧ List.length (F.put bs (Int.ofNat (F.i2f FloatKind.f64 (List.getD l (0 + Int.toNat j) (cod 2).d).2.2.1)) (Int.toNat 8)) ≤   100000)) (
 .need (SV.c     (Cell.own 0       (List.length         (F.put           (F.put bs (Int.ofNat (F.i2f FloatKind.f64 (List.getD l (0 + Int.toNat j) (cod 2).d).2.2.1)) (Int.toNat 8))           (IntKind.wrap IntKind.u64 (List.getD l (0 + Int.toNat j) (cod 2).d).2.2.2.1) (Int.toNat 2)))) =   SV.c     (Cell.own 0       (List.length         (F.put           (F.put bs (Int.ofNat (F.i2f FloatKind.f64 (List.getD l (0 + Int.toNat j) (cod 2).d).2.2.1)) (Int.toNat 8))           (IntKind.wrap IntKind.u64 (List.getD l (0 + Int.toNat j) (cod 2).d).2.2.2.1) (Int.toNat 2))))) (
 .need ((((0 : Int) ≤ 4 ∧ (4 : Int) ≤ 8) ∧ List.length     (F.put (F.put bs (Int.ofNat (F.i2f FloatKind.f64 (List.getD l (0 + Int.toNat j) (cod 2).d).2.2.1)) (Int.toNat 8))       (IntKind.wrap IntKind.u64 (List.getD l (0 + Int.toNat j) (cod 2).d).2.2.2.1) (Int.toNat 2)) ≤   100000)) (
 .need (Sym.i64ok ((List.getD l (0 + Int.toNat j) (cod 2).d).2.2.2.2.2 + 1)) (
 .need (SV.c     (Cell.own 0       (List.length         (F.put           (F.put             (F.put bs (Int.ofNat (F.i2f FloatKind.f64 (List.getD l (0 + Int.toNat j) (cod 2).d).2.2.1)) (Int.toNat 8))             (IntKind.wrap IntKind.u64 (List.getD l (0 + Int.toNat j) (cod 2).d).2.2.2.1) (Int.toNat 2))           (IntKind.wrap IntKind.u64 (List.getD l (0 + Int.toNat j) (cod 2).d).2.2.2.2.1) (Int.toNat 4)))) =   SV.c     (Cell.own 0       (List.length         (F.put           (F.put             (F.put bs (Int.ofNat (F.i2f FloatKind.f64 (List.getD l (0 + Int.toNat j) (cod 2).d).2.2.1)) (Int.toNat 8))             (IntKind.wrap IntKind.u64 (List.getD l (0 + Int.toNat j) (cod 2).d).2.2.2.1) (Int.toNat 2))           (IntKind.wrap IntKind.u64 (List.getD l (0 + Int.toNat j) (cod 2).d).2.2.2.2.1) (Int.toNat 4))))) (
 .need ((((0 : Int) ≤ 2 ∧ (2 : Int) ≤ 8) ∧ List.length     (F.put       (F.put (F.put bs (Int.ofNat (F.i2f FloatKind.f64 (List.getD l (0 + Int.toNat j) (cod 2).d).2.2.1)) (Int.toNat 8))         (IntKind.wrap IntKind.u64 (List.getD l (0 + Int.toNat j) (cod 2).d).2.2.2.1) (Int.toNat 2))       (IntKind.wrap IntKind.u64 (List.getD l (0 + Int.toNat j) (cod 2).d).2.2.2.2.1) (Int.toNat 4)) ≤   100000)) (
 .need (Sym.i64ok (j + 1)) (
 .ret (.cut (cutAt Try.f10 8) ⟨tmG 36 [(5, .c (.own 3 (List.length   (F.put     (F.put       (F.put (F.put bs (Int.ofNat (F.i2f FloatKind.f64 (List.getD l (0 + Int.toNat j) (cod 2).d).2.2.1)) (Int.toNat 8))         (IntKind.wrap IntKind.u64 (List.getD l (0 + Int.toNat j) (cod 2).d).2.2.2.1) (Int.toNat 2))       (IntKind.wrap IntKind.u64 (List.getD l (0 + Int.toNat j) (cod 2).d).2.2.2.2.1) (Int.toNat 4))     (IntKind.wrap IntKind.u64 ((List.getD l (0 + Int.toNat j) (cod 2).d).2.2.2.2.2 + 1)) (Int.toNat 2))))), (27, .c (.slc 0 0 (List.length l) l_t)), (0, .c (.int .i64 (Int.ofNat (List.length l)))), (0, .c (.int .i64 (j + 1)))], [.inp 2 l, .blk [.int .i64 r, .int .i64 t, .slc 0 0 (List.length l) l_t] 24, .inp 4 F.sw, .own 4 (F.put   (F.put     (F.put (F.put bs (Int.ofNat (F.i2f FloatKind.f64 (List.getD l (0 + Int.toNat j) (cod 2).d).2.2.1)) (Int.toNat 8))       (IntKind.wrap IntKind.u64 (List.getD l (0 + Int.toNat j) (cod 2).d).2.2.2.1) (Int.toNat 2))     (IntKind.wrap IntKind.u64 (List.getD l (0 + Int.toNat j) (cod 2).d).2.2.2.2.1) (Int.toNat 4))   (IntKind.wrap IntKind.u64 ((List.getD l (0 + Int.toNat j) (cod 2).d).2.2.2.2.2 + 1)) (Int.toNat 2)) 5]⟩))))))))))))))) (
 .need (∀ (a : (cod ((fun x => x.snd) (5, 4))).α), ∃ n, (cod 4).enc a = [Cell.int IntKind.u8 n]) (
 .need (List.length     (List.map       (Sym.byteOf (cod 4))       bs) ≤   1000000) (
 .need (SV.c (Cell.own 0 (List.length bs)) = SV.c (Cell.own 0 (List.length bs))) (
 .need ((((0 : Int) ≤ 2 ∧ (2 : Int) ≤ 8) ∧ List.length bs ≤ 100000)) (
 .need (∀ (a : (cod ((fun x => x.snd) (5, 4))).α), ∃ n, (cod 4).enc a = [Cell.int IntKind.u8 n]) (
 .ret (.fin (.tup [.c (.str (List.map   (Sym.byteOf (cod 4))   (F.put bs     (IntKind.wrap IntKind.u64       (F.wsum         (List.map           (Sym.byteOf (cod 4))           bs)))     (Int.toNat 2)))), .c (.int .i64 0)]) []))))))) := by kernel_rfl



theorem wenc_run (r t : Int) (l : List (Int × Int × Int × Int × Int × Int)) (l_t : Bool) (b0 : Base) (hb : b0.n = 1)  : Sym.Runs Try.prog b0 [.code (codeOf Try.f10)] ⟨argsS Try.f10 [.agg [.int .i64 r, .int .i64 t, .slc 0 0 (List.length l) l_t]], ([.inp 2 l] : Heap cod)⟩ (Sym.Ends Try.prog Try.f10 1 (.tup [.c (.str (F.encS r t l)), .c (.int .i64 (F.chk r t l))]) []) := by
  have key : F.chk r t l = 0 → ∀ (m : Nat) (j : Int) (bs : List Int), 0 ≤ j → j + m = l.length → F.str bs ++ F.frL (l.drop j.toNat) = F.frB r t l → (bs.length : Int) = 9 + 16 * j →
      Sym.Runs Try.prog b0 (cutAt Try.f10 8) (st_wenc_8 r t l l_t j bs) (Sym.Ends Try.prog Try.f10 1 (.tup [.c (.str (F.encS r t l)), .c (.int .i64 (F.chk r t l))]) []) := by
    intro h0
    obtain ⟨h32, _, hc⟩ := chk_0 h0
    have all := chkL_0 hc
    intro m
    induction m with
    | zero =>
      intro j bs hj hm hs hl
      refine Runs.go (cfg := C_rfr) L_rfr_ok mixed cuts_wenc 400 hb (wenc_t8 r t l l_t j bs) ?_
      have h1 : ¬ j < (l.length : Int) := by omega
      rw [drop_end l h1] at hs
      have e : F.str bs = F.frB r t l := by rw [← hs]; simp [F.frL]
      simp only [T.wp, T.wp_cond, Aft, Int.ofNat_eq_natCast, decide_eq_true_eq, and_true, true_and, Nat.zero_add, Bool.not_eq_true', decide_eq_false_iff_not]
      refine ite_no h1 ⟨fun a => ⟨a, rfl⟩, by (show (F.str bs).length ≤ 1000000); (unfold F.str); rw [List.length_map]; omega, ⟨by decide, by omega⟩, fun a => ⟨a, rfl⟩, ?_⟩
      have e2 : List.map (Sym.byteOf (cod 4)) (F.put bs (IntKind.wrap .u64 (F.wsum (List.map (Sym.byteOf (cod 4)) bs))) (Int.toNat 2)) = F.encS r t l := by
        show F.str (F.put bs (IntKind.wrap .u64 (F.wsum (F.str bs))) 2) = _
        rw [str_put, e, F.encS, if_pos h0]
        rfl
      rw [e2, h0]
    | succ m ih =>
      intro j bs hj hm hs hl
      refine Runs.go (cfg := C_rfr) L_rfr_ok mixed cuts_wenc 400 hb (wenc_t8 r t l l_t j bs) ?_
      have h1 : j < (l.length : Int) := by omega
      rw [drop_at l (cod 2).d hj h1] at hs
      have hp := all (l.getD j.toNat (cod 2).d) (getD_mem _ (by omega))
      simp only [T.wp, T.wp_cond, Aft, Int.ofNat_eq_natCast, decide_eq_true_eq, and_true, true_and, Nat.zero_add, Bool.not_eq_true', decide_eq_false_iff_not, Nat.zero_add]
      generalize l.getD j.toNat (cod 2).d = p at *
      obtain ⟨a, b, c, d, e, f⟩ := p
      obtain ⟨_, q1, q2, q3, q4⟩ := hp
      simp only at q1 q2 q3 q4
      have nx := ih (j + 1) (F.put (F.put (F.put (F.put bs (Sym.F.i2f .f64 c : Nat) 8) (IntKind.wrap .u64 d) 2) (IntKind.wrap .u64 e) 4) (IntKind.wrap .u64 (f + 1)) 2) (by omega) (by omega) (by
        rw [← hs, str_put, str_put, str_put, str_put]
        show _ = F.str bs ++ (F.frP (a, b, c, d, e, f) ++ F.frL (l.drop (j + 1).toNat))
        unfold F.frP F.u64
        simp only [List.append_assoc]) (by rw [put_len, put_len, put_len, put_len]; omega)
      exact ite_yes h1 ⟨⟨hj, h1⟩, by omega, ⟨q1.1, q1.2⟩, ⟨by decide, by omega⟩, ⟨by decide, by rw [put_len]; show _ + 8 ≤ _; omega⟩, ⟨by decide, by rw [put_len, put_len]; show _ + 8 + 2 ≤ _; omega⟩, by show Sym.i64ok (f + 1); unfold Sym.i64ok; omega, ⟨by decide, by rw [put_len, put_len, put_len]; show _ + 8 + 2 + 4 ≤ _; omega⟩, by unfold Sym.i64ok; omega, nx⟩
  refine Runs.go (cfg := C_rfr) L_rfr_ok mixed cuts_wenc 400 hb (wenc_t0 r t l l_t) ?_
  simp only [T.wp, T.wp_cond, Aft, Int.ofNat_eq_natCast, decide_eq_true_eq, and_true, true_and, Nat.zero_add, Bool.not_eq_true', decide_eq_false_iff_not]
  by_cases hc : F.chk r t l = 0
  · refine ite_no (fun q => q hc) ⟨by decide, by decide, ?_⟩
    refine key hc l.length 0 _ (by omega) (by omega) ?_ rfl
    rw [str_put, str_put, str_put]
    rfl
  · refine ite_yes hc ?_
    rw [F.encS, if_neg hc]



noncomputable def s_wenc : Summ cod := fun args H => match args, H with
  | [.agg [.int .i64 r, .int .i64 t, .slc 0 l_i l_n l_t]], [o0] => (match o0.asInp 2 with | some l => .need ((l_i = 0 ∧ l_n = List.length l)) (.ret (.tup [.c (.str (F.encS r t l)), .c (.int .i64 (F.chk r t l))], [])) | none => .fail)
  | _, _ => .fail


theorem wenc_sound : Sound Try.prog cod 10 s_wenc := sound_runs (cfg := C_rfr) L_rfr_ok mixed Try.func10 rfl rfl _ fun args H r news hg b0 hb => by
  unfold s_wenc at hg
  split at hg
  · skip
    split at hg
    · rename_i l hx0
      cases asInp_spec hx0
      simp only [T.gives, T.wp, Prod.mk.injEq] at hg
      obtain ⟨⟨rfl, rfl⟩, rfl, rfl⟩ := hg
      exact wenc_run _ _ _ _ b0 hb 
    · exact hg.elim
  · exact hg.elim

noncomputable def L_wenc : Sums cod := (10, .p s_wenc) :: L_rfr
noncomputable def C_wenc : Cfg cod := mkC L_wenc

theorem L_wenc_ok : Snd Try.prog cod L_wenc := .cons wenc_sound L_rfr_ok


end
end Go.Proofs.Ytbkpgpkeecnjpaa
end
section
namespace Go.Proofs.Ytbkpgpkeecnjpaa
open Sym Go.RowKit
noncomputable section
set_option maxRecDepth 100000
set_option maxHeartbeats 4000000



def cuts_chk0 : Cuts := []

theorem chk0_t0  : symF C_wenc cuts_chk0 Try.f13.results.toList 0 400 [.code (codeOf Try.f13)] ⟨argsS Try.f13 [.agg [.int .i64 0, .int .i64 0, .nil]], ([] : Heap cod)⟩ =
.ret (.fin (.c (.int .i64 0)) []) := by kernel_rfl



theorem chk0_run  (b0 : Base) (hb : b0.n = 0)  : Sym.Runs Try.prog b0 [.code (codeOf Try.f13)] ⟨argsS Try.f13 [.agg [.int .i64 0, .int .i64 0, .nil]], ([] : Heap cod)⟩ (Sym.Ends Try.prog Try.f13 0 (.c (.int .i64 0)) []) := by
  refine Runs.go (cfg := C_wenc) L_wenc_ok mixed cuts_chk0 400 hb chk0_t0 ?_
  simp only [T.wp, T.wp_cond, Aft, Int.ofNat_eq_natCast, decide_eq_true_eq, and_true, true_and, Nat.zero_add, Bool.not_eq_true', decide_eq_false_iff_not]



noncomputable def s_chk0 : Summ cod := fun args H => match args, H with
  | [.agg [.int .i64 0, .int .i64 0, .nil]], [] => .ret (.c (.int .i64 0), [])
  | _, _ => .fail


theorem chk0_sound : Sound Try.prog cod 13 s_chk0 := sound_runs (cfg := C_wenc) L_wenc_ok mixed Try.func13 rfl rfl _ fun args H r news hg b0 hb => by
  unfold s_chk0 at hg
  split at hg
  · skip
    cases hg
    exact chk0_run  b0 hb 
  · exact hg.elim

noncomputable def L_chk0 : Sums cod := (13, .p s_chk0) :: L_wenc
noncomputable def C_chk0 : Cfg cod := mkC L_chk0

theorem L_chk0_ok : Snd Try.prog cod L_chk0 := .cons chk0_sound L_wenc_ok



def cuts_wenc0 : Cuts := []

theorem wenc0_t0  : symF C_chk0 cuts_wenc0 Try.f10.results.toList 0 400 [.code (codeOf Try.f10)] ⟨argsS Try.f10 [.agg [.int .i64 0, .int .i64 0, .nil]], ([] : Heap cod)⟩ =
.need ((SV.c (Cell.slc 0 0 2 true) : SV) = SV.c (Cell.slc 0 0 2 true)) (
.need (2 = 2) (
.need ((SV.c (Cell.own 0 3) : SV) = SV.c (Cell.own 0 3)) (
.need ((((0 : Int) ≤ 4 ∧ (4 : Int) ≤ 8) ∧ (3 : Nat) ≤ 100000)) (
.need ((SV.c (Cell.own 0 7) : SV) = SV.c (Cell.own 0 7)) (
.need ((((0 : Int) ≤ 2 ∧ (2 : Int) ≤ 8) ∧ (7 : Nat) ≤ 100000)) (
.need (∀ (a : (cod ((fun x => x.snd) (5, 4))).α), ∃ n, (cod 4).enc a = [Cell.int IntKind.u8 n]) (
.need ((9 : Nat) ≤ 1000000) (
.need ((SV.c (Cell.own 0 9) : SV) = SV.c (Cell.own 0 9)) (
.need ((((0 : Int) ≤ 2 ∧ (2 : Int) ≤ 8) ∧ (9 : Nat) ≤ 100000)) (
.need (∀ (a : (cod ((fun x => x.snd) (5, 4))).α), ∃ n, (cod 4).enc a = [Cell.int IntKind.u8 n]) (
.ret (.fin (.tup [.c (.str ([UInt8.ofNat (Int.toNat 83), UInt8.ofNat (Int.toNat 87), UInt8.ofNat (Int.toNat (IntKind.wrap IntKind.u64 0 % 256)),   UInt8.ofNat (Int.toNat (IntKind.wrap IntKind.u64 0 / 256 / 256 / 256 % 256)),   UInt8.ofNat (Int.toNat (IntKind.wrap IntKind.u64 0 / 256 / 256 % 256)),   UInt8.ofNat (Int.toNat (IntKind.wrap IntKind.u64 0 / 256 % 256)),   UInt8.ofNat (Int.toNat (IntKind.wrap IntKind.u64 0 % 256)),   UInt8.ofNat (Int.toNat (IntKind.wrap IntKind.u64 0 / 256 % 256)),   UInt8.ofNat (Int.toNat (IntKind.wrap IntKind.u64 0 % 256)),   UInt8.ofNat     (Int.toNat       (IntKind.wrap IntKind.u64             (F.wsum               [UInt8.ofNat (Int.toNat 83), UInt8.ofNat (Int.toNat 87),                 UInt8.ofNat (Int.toNat (IntKind.wrap IntKind.u64 0 % 256)),                 UInt8.ofNat (Int.toNat (IntKind.wrap IntKind.u64 0 / 256 / 256 / 256 % 256)),                 UInt8.ofNat (Int.toNat (IntKind.wrap IntKind.u64 0 / 256 / 256 % 256)),                 UInt8.ofNat (Int.toNat (IntKind.wrap IntKind.u64 0 / 256 % 256)),                 UInt8.ofNat (Int.toNat (IntKind.wrap IntKind.u64 0 % 256)),                 UInt8.ofNat (Int.toNat (IntKind.wrap IntKind.u64 0 / 256 % 256)),                 UInt8.ofNat (Int.toNat (IntKind.wrap IntKind.u64 0 % 256))]) /           256 %         256)),   UInt8.ofNat     (Int.toNat       (IntKind.wrap IntKind.u64           (F.wsum             [UInt8.ofNat (Int.toNat 83), UInt8.ofNat (Int.toNat 87),               UInt8.ofNat (Int.toNat (IntKind.wrap IntKind.u64 0 % 256)),               UInt8.ofNat (Int.toNat (IntKind.wrap IntKind.u64 0 / 256 / 256 / 256 % 256)),               UInt8.ofNat (Int.toNat (IntKind.wrap IntKind.u64 0 / 256 / 256 % 256)),               UInt8.ofNat (Int.toNat (IntKind.wrap IntKind.u64 0 / 256 % 256)),               UInt8.ofNat (Int.toNat (IntKind.wrap IntKind.u64 0 % 256)),               UInt8.ofNat (Int.toNat (IntKind.wrap IntKind.u64 0 / 256 % 256)),               UInt8.ofNat (Int.toNat (IntKind.wrap IntKind.u64 0 % 256))]) %         256))])), .c (.int .i64 0)]) [])))))))))))) := by kernel_rfl



theorem wenc0_run  (b0 : Base) (hb : b0.n = 0)  : Sym.Runs Try.prog b0 [.code (codeOf Try.f10)] ⟨argsS Try.f10 [.agg [.int .i64 0, .int .i64 0, .nil]], ([] : Heap cod)⟩ (Sym.Ends Try.prog Try.f10 0 (.tup [.c (.str (F.frame 0 0 [])), .c (.int .i64 0)]) []) := by
  refine Runs.go (cfg := C_chk0) L_chk0_ok mixed cuts_wenc0 400 hb wenc0_t0 ?_
  simp only [T.wp, T.wp_cond, Aft, Int.ofNat_eq_natCast, decide_eq_true_eq, and_true, true_and, Nat.zero_add, Bool.not_eq_true', decide_eq_false_iff_not]
  refine ⟨⟨by decide, by decide⟩, ⟨by decide, by decide⟩, fun a => ⟨a, rfl⟩, by decide, ⟨by decide, by decide⟩, fun a => ⟨a, rfl⟩, ?_⟩
  kernel_rfl



noncomputable def s_wenc0 : Summ cod := fun args H => match args, H with
  | [.agg [.int .i64 0, .int .i64 0, .nil]], [] => .ret (.tup [.c (.str (F.frame 0 0 [])), .c (.int .i64 0)], [])
  | _, _ => .fail


theorem wenc0_sound : Sound Try.prog cod 10 s_wenc0 := sound_runs (cfg := C_chk0) L_chk0_ok mixed Try.func10 rfl rfl _ fun args H r news hg b0 hb => by
  unfold s_wenc0 at hg
  split at hg
  · skip
    cases hg
    exact wenc0_run  b0 hb 
  · exact hg.elim

noncomputable def L_wenc0 : Sums cod := (10, .p s_wenc0) :: L_chk0
noncomputable def C_wenc0 : Cfg cod := mkC L_wenc0

theorem L_wenc0_ok : Snd Try.prog cod L_wenc0 := .cons wenc0_sound L_chk0_ok


end
end Go.Proofs.Ytbkpgpkeecnjpaa
end
