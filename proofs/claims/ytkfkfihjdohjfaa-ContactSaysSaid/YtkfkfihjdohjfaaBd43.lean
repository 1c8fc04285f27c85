/- Parts of the proof, one behind the other: Cx, Cd. -/
import Derived.Test.YtkfkfihjdohjfaaCw
import Derived.Test.YtkfkfihjdohjfaaSym39
import Derived.Test.YtkfkfihjdohjfaaBd41
section
namespace Go.Proofs.Ytkfkfihjdohjfaa
open Sym Go.RowKit
noncomputable section
set_option maxRecDepth 100000
set_option maxHeartbeats 4000000



def opsI : List Item → Array Oper
  | .code (.region _ ops _) :: _ => ops
  | _ => #[]
def idI : List Item → Nat
  | .code (.region i _ _) :: _ => i
  | _ => 0
noncomputable def R13 : Array Oper := opsI (regAt Try.f27 13)
noncomputable def K14 : List Item := (regAt Try.f27 13).tail


def cuts_ctun : Cuts := [(100013, [11, 9, 0], 30)]
def cuts_ctun_r13 : Cuts := []

theorem ctun_t0 (l : List (List UInt8 × Int × Int)) (k : List UInt8) (f t : Int) : symI C_ixK cuts_ctun Try.f27.results.toList ([.blk [.own 1 (List.length l)] 79, .own 5 l 56] : Heap cod) 400 [.code (codeOf Try.f27)] ⟨argsS Try.f27 [.c (.ptr 0 0 0), .c (.str k), .c (.int .i64 f), .c (.int .i64 t)], ([.blk [.own 1 (List.length l)] 79, .own 5 l 56] : Heap cod)⟩ =
.need (((0 = 0 ∧ List.length l = List.length l) ∧ (F.asc l = true ∧ List.length l ≤ 100000))) (
 cond (!F.named k) (
 .ret (.fin (.c (.int .i64 6)) [.blk [.own 1 (List.length l)] 79, .own 5 l 56])) (
 .need (i64ok f) (
 cond (!F.vfr f) (
  .ret (.fin (.c (.int .i64 4)) [.blk [.own 1 (List.length l)] 79, .own 5 l 56])) (
  cond (F.wrg t) (
   .ret (.fin (.c (.int .i64 4)) [.blk [.own 1 (List.length l)] 79, .own 5 l 56])) (
   cond (!F.hasC l k) (
    cond (decide (Int.ofNat (List.length l) = 24)) (
     .ret (.fin (.c (.int .i64 9)) [.blk [.own 1 (List.length l)] 79, .own 5 l 56])) (
     cond (F.hasC l k) (
      .need (((0 : Int) ≤ Int.ofNat (F.posC l k) ∧ Int.ofNat (F.posC l k) < Int.ofNat (List.length l))) (
      .need (0 + Int.toNat (Int.ofNat (F.posC l k)) < List.length l) (
      cond (decide (t < (List.getD l (0 + Int.toNat (Int.ofNat (F.posC l k))) (cod 5).d).2.2)) (
       .ret (.fin (.c (.int .i64 12)) [.blk [.own 1 (List.length l)] 79, .own 5 l 56])) (
       cond (F.hasC l k) (
        .need (((0 : Int) ≤ Int.ofNat (F.posC l k) ∧ Int.ofNat (F.posC l k) < Int.ofNat (List.length l))) (
        .need (0 + Int.toNat (Int.ofNat (F.posC l k)) < List.length l) (
        .ret (.fin (.c (.int .i64 0)) [.blk [.own 1 (List.length l)] 79, .own 5 (List.set l (0 + Int.toNat (Int.ofNat (F.posC l k))) (k, f, t)) 56])))) (
        .ret (.cut (regAt Try.f27 13) ⟨tmG 66 [(0, .c (.ptr 0 0 0)), (8, .c (.int .i64 (Int.ofNat (F.posC l k)))), (1, .c (.ptr 2 0 0))], [.blk [.own 1 (List.length l)] 79, .own 5 l 56, .blk [.str k, .int .i64 f, .int .i64 t] 56]⟩)))))) (
      cond (F.hasC l k) (
       .need (((0 : Int) ≤ Int.ofNat (F.posC l k) ∧ Int.ofNat (F.posC l k) < Int.ofNat (List.length l))) (
       .need (0 + Int.toNat (Int.ofNat (F.posC l k)) < List.length l) (
       .ret (.fin (.c (.int .i64 0)) [.blk [.own 1 (List.length l)] 79, .own 5 (List.set l (0 + Int.toNat (Int.ofNat (F.posC l k))) (k, f, t)) 56])))) (
       .ret (.cut (regAt Try.f27 13) ⟨tmG 66 [(0, .c (.ptr 0 0 0)), (8, .c (.int .i64 (Int.ofNat (F.posC l k)))), (1, .c (.ptr 2 0 0))], [.blk [.own 1 (List.length l)] 79, .own 5 l 56, .blk [.str k, .int .i64 f, .int .i64 t] 56]⟩))))) (
    cond (F.hasC l k) (
     .need (((0 : Int) ≤ Int.ofNat (F.posC l k) ∧ Int.ofNat (F.posC l k) < Int.ofNat (List.length l))) (
     .need (0 + Int.toNat (Int.ofNat (F.posC l k)) < List.length l) (
     cond (decide (t < (List.getD l (0 + Int.toNat (Int.ofNat (F.posC l k))) (cod 5).d).2.2)) (
      .ret (.fin (.c (.int .i64 12)) [.blk [.own 1 (List.length l)] 79, .own 5 l 56])) (
      cond (F.hasC l k) (
       .need (((0 : Int) ≤ Int.ofNat (F.posC l k) ∧ Int.ofNat (F.posC l k) < Int.ofNat (List.length l))) (
       .need (0 + Int.toNat (Int.ofNat (F.posC l k)) < List.length l) (
       .ret (.fin (.c (.int .i64 0)) [.blk [.own 1 (List.length l)] 79, .own 5 (List.set l (0 + Int.toNat (Int.ofNat (F.posC l k))) (k, f, t)) 56])))) (
       .ret (.cut (regAt Try.f27 13) ⟨tmG 66 [(0, .c (.ptr 0 0 0)), (8, .c (.int .i64 (Int.ofNat (F.posC l k)))), (1, .c (.ptr 2 0 0))], [.blk [.own 1 (List.length l)] 79, .own 5 l 56, .blk [.str k, .int .i64 f, .int .i64 t] 56]⟩)))))) (
     cond (F.hasC l k) (
      .need (((0 : Int) ≤ Int.ofNat (F.posC l k) ∧ Int.ofNat (F.posC l k) < Int.ofNat (List.length l))) (
      .need (0 + Int.toNat (Int.ofNat (F.posC l k)) < List.length l) (
      .ret (.fin (.c (.int .i64 0)) [.blk [.own 1 (List.length l)] 79, .own 5 (List.set l (0 + Int.toNat (Int.ofNat (F.posC l k))) (k, f, t)) 56])))) (
      .ret (.cut (regAt Try.f27 13) ⟨tmG 66 [(0, .c (.ptr 0 0 0)), (8, .c (.int .i64 (Int.ofNat (F.posC l k)))), (1, .c (.ptr 2 0 0))], [.blk [.own 1 (List.length l)] 79, .own 5 l 56, .blk [.str k, .int .i64 f, .int .i64 t] 56]⟩))))))))) := by kernel_rfl


noncomputable def st_ctun_r13 (l : List (List UInt8 × Int × Int)) (k : List UInt8) (f t : Int) (i : Int) : St cod := ⟨tmG 66 [(0, .c (.ptr 0 0 0)), (8, .c (.int .i64 i)), (1, .c (.ptr 2 0 0))], [.blk [.own 1 (List.length l)] 79, .own 5 l 56, .blk [.str k, .int .i64 f, .int .i64 t] 56]⟩



def st_ctun_e (l : List (List UInt8 × Int × Int)) (k : List UInt8) (f t : Int) (i : Int) : St cod := ⟨tmG 0 [(0, .c (.ptr 0 0 0)), (8, .c (.int .i64 i)), (1, .c (.ptr 2 0 0)), (55, .c (.ptr 0 0 0)), (0, .c (.ptr 0 0 0)), (0, .c (.ptr 0 0 0)), (0, .c (.ptr 0 0 0)), (1, .c (.int .i64 i)), (0, .agg [.str k, .int .i64 f, .int .i64 t]), (0, .c (.slc 3 0 1 true)), (0, .c (.own 1 (List.length l + 1))), (0, .c (.ptr 0 0 0)), (0, .c (.ptr 0 0 0))], [.blk [.own 1 (List.length l + 1)] 79, .own 5 (((List.take (Int.toNat i) l) ++ ([(k, f, t)])) ++ (List.drop (Int.toNat i) l)) 56, .blk [.str k, .int .i64 f, .int .i64 t] 56, .arr 5 ([(k, f, t)]) 56]⟩
theorem ctun_x (l : List (List UInt8 × Int × Int)) (k : List UInt8) (f t : Int) (i : Int) : lexT C_ixK R13.toList (st_ctun_r13 l k f t i) =
    .need (((0 : Int) ≤ i ∧ (i ≤ Int.ofNat (List.length l) ∧ (List.length l + 1 ≤ 1000000 ∧ 1 = 1)))) (.ret (st_ctun_e l k f t i)) := by kernel_rfl
theorem ctun_y (l : List (List UInt8 × Int × Int)) (k : List UInt8) (f t : Int) (i : Int) : symI C_ixK [] Try.f27.results.toList ([.blk [.own 1 (List.length l)] 79, .own 5 l 56] : Heap cod) 400 K14 (st_ctun_e l k f t i) =
    .ret (.fin (.c (.int .i64 0)) [.blk [.own 1 (List.length l + 1)] 79, .own 5 (((List.take (Int.toNat i) l) ++ ([(k, f, t)])) ++ (List.drop (Int.toNat i) l)) 56]) := by kernel_rfl
theorem R13_at : regAt Try.f27 13 = .code (.region (idI (regAt Try.f27 13)) R13 true) :: K14 := by kernel_rfl
theorem R13_lex : Region.lexB .any R13 = true := by kernel_rfl
theorem R13_pairs : ((List.range R13.size).all fun i => (List.range R13.size).all fun j => decide (j ≤ i) || match R13[i]?, R13[j]? with
      | some oi, some oj => compat (kindP C_ixK oi) (kindP C_ixK oj) || (depL R13 i (j + 1)).getD j false || (decide (i = 0) && decide (j = 8))
      | _, _ => true) = true := by kernel_rfl
theorem R13_keep : (R13.toList.all fun o => decide (o.dst ≠ some 0) && (decide (kindP C_ixK o ≤ 2) || isStore o || isCallI C_ixK o)) = true := by kernel_rfl
theorem R13_free : (R13.toList.all fun o => o.guard.isNone) = true := by kernel_rfl
theorem R13_a : (R13[0]?).map (fun o => o.op) = some (.move (.tmp 0)) := by kernel_rfl
theorem R13_b : (R13[0]?).map (fun o => kindP C_ixK o) = some 0 := by kernel_rfl
theorem R13_c : (R13[8]?).map (fun o => isCallI C_ixK o) = some true := by kernel_rfl
theorem R13_i : ∀ oi, R13[0]? = some oi → oi.op = .move (.tmp 0) ∧ kindP C_ixK oi = 0 := fun oi h => by
  have a := R13_a
  have b := R13_b
  rw [h] at a b
  exact ⟨Option.some.inj a, Option.some.inj b⟩
theorem R13_j : ∀ oj, R13[8]? = some oj → isCallI C_ixK oj = true := fun oj h => by
  have a := R13_c
  rw [h] at a
  exact Option.some.inj a
theorem ctun_run (l : List (List UInt8 × Int × Int)) (k : List UInt8) (f t : Int) (b0 : Base) (hb : b0.n = 2) (h0 : F.asc l = true) (h1 : l.length ≤ 1000) (h2 : Sym.i64ok f) : Sym.Runs Try.prog b0 [.code (codeOf Try.f27)] ⟨argsS Try.f27 [.c (.ptr 0 0 0), .c (.str k), .c (.int .i64 f), .c (.int .i64 t)], ([.blk [.own 1 (List.length l)] 79, .own 5 l 56] : Heap cod)⟩ (Sym.EndsI Try.prog Try.f27 ([.blk [.own 1 (List.length l)] 79, .own 5 l 56] : Heap cod) (.c (.int .i64 (F.tunE l k f t))) [.blk [.own 1 (List.length (F.tunL l k f t))] 79, .own 5 (F.tunL l k f t) 56]) := by
  have ins : F.tunE l k f t = 0 → F.hasC l k = false → Sym.Runs Try.prog b0 (regAt Try.f27 13) (st_ctun_r13 l k f t (F.posC l k : Int)) (Sym.EndsI Try.prog Try.f27 ([.blk [.own 1 (List.length l)] 79, .own 5 l 56] : Heap cod) (.c (.int .i64 (F.tunE l k f t))) [.blk [.own 1 (List.length (F.tunL l k f t))] 79, .own 5 (F.tunL l k f t) 56]) := by
    intro eE eh
    have hp := posC_le l k
    have eL : F.tunL l k f t = List.take (F.posC l k) l ++ [(k, f, t)] ++ List.drop (F.posC l k) l := by
      unfold F.tunL
      rw [if_pos eE, eh]
      rfl
    have en : (F.tunL l k f t).length = l.length + 1 := by
      rw [eL]
      simp
      omega
    refine Runs.lexT (cfg := C_ixK) L_ixK_ok mixed R13_at 0 8 R13_lex R13_pairs R13_keep R13_free R13_i R13_j ⟨rfl, by simp [st_ctun_r13], rfl⟩ (ctun_x l k f t (F.posC l k : Int)) ?_
    refine ⟨⟨by omega, by simp only [Int.ofNat_eq_natCast]; omega, by omega, rfl⟩, ?_⟩
    refine Runs.goI (cfg := C_ixK) L_ixK_ok mixed [] 400 (H := ([.blk [.own 1 (List.length l)] 79, .own 5 l 56] : Heap cod)) hb (ctun_y l k f t (F.posC l k : Int)) ?_
    rw [en, eE, eL]
    exact ⟨rfl, rfl⟩
  refine Runs.goI (cfg := C_ixK) L_ixK_ok mixed cuts_ctun 400 (H := ([.blk [.own 1 (List.length l)] 79, .own 5 l 56] : Heap cod)) hb (ctun_t0 l k f t) ?_
  have d0 : (cod 5).d = F.co0 := rfl
  simp only [T.wp, T.wp_cond, Aft, Int.ofNat_eq_natCast, decide_eq_true_eq, and_true, true_and, Nat.zero_add, Bool.not_eq_true', decide_eq_false_iff_not, Nat.zero_add, Int.toNat_natCast, d0]
  have bad : ∀ e : Int, e ≠ 0 → F.tunE l k f t = e → (SV.c (.int .i64 e) : SV) = .c (.int .i64 (F.tunE l k f t)) ∧ ([.blk [.own 1 (List.length l)] 79, .own 5 l 56] : Heap cod) = [.blk [.own 1 (List.length (F.tunL l k f t))] 79, .own 5 (F.tunL l k f t) 56] := by
    intro e he eE
    have eL : F.tunL l k f t = l := by unfold F.tunL; rw [if_neg (by rw [eE]; exact he)]
    rw [eE, eL]
    exact ⟨rfl, rfl⟩
  refine ⟨⟨h0, by omega⟩, ?_⟩
  cases c1 : F.named k with
  | false => exact ite_yes rfl (bad 6 (by decide) (by unfold F.tunE; rw [c1]; rfl))
  | true =>
  refine ite_no (by decide) ⟨h2, ?_⟩
  cases c2 : F.vfr f with
  | false => exact ite_yes rfl (bad 4 (by decide) (by unfold F.tunE; rw [c1, c2]; rfl))
  | true =>
  refine ite_no (by decide) ?_
  cases c3 : F.wrg t with
  | true => exact ite_yes rfl (bad 4 (by decide) (by unfold F.tunE; rw [c1, c2, c3]; rfl))
  | false =>
  refine ite_no (by decide) ?_
  have e0 : F.tunE l k f t = (if F.hasC l k then (if t < (F.atC l k).2.2 then 12 else 0) else (if l.length = 24 then 9 else 0)) := by
    unfold F.tunE
    rw [c1, c2, c3]
    rfl
  cases c4 : F.hasC l k with
  | false =>
    rw [c4] at e0
    refine ite_yes rfl ?_
    by_cases c5 : l.length = 24
    · exact ite_yes (by omega) (bad 9 (by decide) (by rw [e0, if_neg (by decide), if_pos c5]))
    · refine ite_no (by omega) ?_
      refine ite_no (by decide) (ite_no (by decide) ?_)
      exact ins (by rw [e0, if_neg (by decide), if_neg c5]) c4
  | true =>
    rw [c4, if_pos rfl] at e0
    have hp := hasC_pos (k := k) h0
    rw [c4] at hp
    have hlt : F.posC l k < l.length := by
      by_cases q : F.posC l k < l.length
      · exact q
      · rw [decide_eq_false q] at hp; cases hp
    have hlt' : ((F.posC l k : Nat) : Int) < (l.length : Int) := by omega
    have ea : l.getD (F.posC l k) F.co0 = F.atC l k := rfl
    rw [ea]
    refine ite_no (by decide) (ite_yes rfl ⟨⟨by omega, hlt'⟩, hlt, ?_⟩)
    by_cases c5 : t < (F.atC l k).2.2
    · exact ite_yes c5 (bad 12 (by decide) (by rw [e0, if_pos c5]))
    · have eE : F.tunE l k f t = 0 := by rw [e0, if_neg c5]
      have eL : F.tunL l k f t = l.set (F.posC l k) (k, f, t) := by unfold F.tunL; rw [if_pos eE, c4]; rfl
      rw [eE, eL, List.length_set]
      exact ite_no c5 (ite_yes rfl ⟨⟨by omega, hlt'⟩, hlt, rfl, rfl⟩)



noncomputable def s_ctun : Summ cod := fun args H => match args, H with
  | [.c (.ptr 0 0 0), .c (.str k), .c (.int .i64 f), .c (.int .i64 t)], [.blk [.own 1 q] 79, o1] => (match o1.asOwn 5 56 with | some l => .need ((.blk [.own 1 q] 79 : HObj cod) = .blk [.own 1 (List.length l)] 79) (.need ((F.asc l = true) ∧ (l.length ≤ 1000) ∧ (Sym.i64ok f)) (.ret (.c (.int .i64 (F.tunE l k f t)), [.blk [.own 1 (List.length (F.tunL l k f t))] 79, .own 5 (F.tunL l k f t) 56]))) | none => .fail)
  | _, _ => .fail


theorem ctun_sound : SoundI Try.prog cod 27 s_ctun := tree_soundI (cfg := C_ixK) Try.func27 rfl rfl _ fun args H r H' hg b0 hb => by
  unfold s_ctun at hg
  split at hg
  · skip
    split at hg
    · rename_i l hx1
      cases asOwn_spec hx1
      obtain ⟨ot0, hg⟩ := hg
      cases ot0
      obtain ⟨hq, hg⟩ := hg
      obtain ⟨q0, q1, q2⟩ := hq
      cases hg
      exact ctun_run _ _ _ _ b0 hb (by assumption) (by assumption) (by assumption)
    · exact hg.elim
  · exact hg.elim

noncomputable def L_ctun : Sums cod := (27, .i s_ctun) :: L_ixK
noncomputable def C_ctun : Cfg cod := mkC L_ctun

theorem L_ctun_ok : Snd Try.prog cod L_ctun := .consI ctun_sound L_ixK_ok


end
end Go.Proofs.Ytkfkfihjdohjfaa
end
section
namespace Go.Proofs.Ytkfkfihjdohjfaa
open Sym Go.RowKit
noncomputable section
set_option maxRecDepth 100000
set_option maxHeartbeats 4000000


noncomputable def L_cstr : Sums cod := (54, .p s_cstr) :: L_ctun
noncomputable def C_cstr : Cfg cod := mkC L_cstr

theorem L_cstr_ok : Snd Try.prog cod L_cstr := .cons cstr_sound L_ctun_ok



def cuts_stcmp : Cuts := []

theorem stcmp_t0 (a : List UInt8) (b : List UInt8) : symF C_cstr cuts_stcmp Try.f33.results.toList 0 400 [.code (codeOf Try.f33)] ⟨argsS Try.f33 [.c (.str a), .c (.str b)], ([] : Heap cod)⟩ =
.ret (.fin (.c (.int .i64 (F.scmp a b))) []) := by kernel_rfl



theorem stcmp_run (a : List UInt8) (b : List UInt8) (b0 : Base) (hb : b0.n = 0)  : Sym.Runs Try.prog b0 [.code (codeOf Try.f33)] ⟨argsS Try.f33 [.c (.str a), .c (.str b)], ([] : Heap cod)⟩ (Sym.Ends Try.prog Try.f33 0 (.c (.int .i64 (F.scmp a b))) []) := by
  refine Runs.go (cfg := C_cstr) L_cstr_ok mixed cuts_stcmp 400 hb (stcmp_t0 a b) ?_
  exact ⟨rfl, rfl⟩



noncomputable def s_stcmp : Summ cod := fun args H => match args, H with
  | [.c (.str a), .c (.str b)], [] => .ret (.c (.int .i64 (F.scmp a b)), [])
  | _, _ => .fail


theorem stcmp_sound : Sound Try.prog cod 33 s_stcmp := sound_runs (cfg := C_cstr) L_cstr_ok mixed Try.func33 rfl rfl _ fun args H r news hg b0 hb => by
  unfold s_stcmp at hg
  split at hg
  · skip
    cases hg
    exact stcmp_run _ _ b0 hb 
  · exact hg.elim

noncomputable def L_stcmp : Sums cod := (33, .p s_stcmp) :: L_cstr
noncomputable def C_stcmp : Cfg cod := mkC L_stcmp

theorem L_stcmp_ok : Snd Try.prog cod L_stcmp := .cons stcmp_sound L_cstr_ok



def cuts_ncmp : Cuts := []

theorem ncmp_t0 (a1 : List UInt8) (a2 a3 : Int) (b1 : List UInt8) (b2 b3 : Int) : symF C_stcmp cuts_ncmp Try.f32.results.toList 0 400 [.code (codeOf Try.f32)] ⟨argsS Try.f32 [.agg [.str a1, .int .i64 a2, .int .i64 a3], .agg [.str b1, .int .i64 b2, .int .i64 b3]], ([] : Heap cod)⟩ =
.ret (.fin (.c (.int .i64 (F.scmp a1 b1))) []) := by kernel_rfl



theorem ncmp_run (a1 : List UInt8) (a2 a3 : Int) (b1 : List UInt8) (b2 b3 : Int) (b0 : Base) (hb : b0.n = 0)  : Sym.Runs Try.prog b0 [.code (codeOf Try.f32)] ⟨argsS Try.f32 [.agg [.str a1, .int .i64 a2, .int .i64 a3], .agg [.str b1, .int .i64 b2, .int .i64 b3]], ([] : Heap cod)⟩ (Sym.Ends Try.prog Try.f32 0 (.c (.int .i64 (F.scmp a1 b1))) []) := by
  refine Runs.go (cfg := C_stcmp) L_stcmp_ok mixed cuts_ncmp 400 hb (ncmp_t0 a1 a2 a3 b1 b2 b3) ?_
  simp only [T.wp, T.wp_cond, Aft, Int.ofNat_eq_natCast, decide_eq_true_eq, and_true, true_and, Nat.zero_add, Bool.not_eq_true', decide_eq_false_iff_not]



noncomputable def s_ncmp : Summ cod := fun args H => match args, H with
  | [.agg [.str a1, .int .i64 a2, .int .i64 a3], .agg [.str b1, .int .i64 b2, .int .i64 b3]], [] => .ret (.c (.int .i64 (F.scmp a1 b1)), [])
  | _, _ => .fail


theorem ncmp_sound : Sound Try.prog cod 32 s_ncmp := sound_runs (cfg := C_stcmp) L_stcmp_ok mixed Try.func32 rfl rfl _ fun args H r news hg b0 hb => by
  unfold s_ncmp at hg
  split at hg
  · skip
    cases hg
    exact ncmp_run _ _ _ _ _ _ b0 hb 
  · exact hg.elim

noncomputable def L_ncmp : Sums cod := (32, .p s_ncmp) :: L_stcmp
noncomputable def C_ncmp : Cfg cod := mkC L_ncmp

theorem L_ncmp_ok : Snd Try.prog cod L_ncmp := .cons ncmp_sound L_stcmp_ok


end
end Go.Proofs.Ytkfkfihjdohjfaa
end
