/- Part of a claim: lemmas on the way to its theorem; each states its own conditions. -/
import Derived.Test.YtbkpgpkeecnjpaaBd33
namespace Go.Proofs.Ytbkpgpkeecnjpaa
open Sym Go.RowKit
noncomputable section
set_option maxRecDepth 100000
set_option maxHeartbeats 4000000



namespace F
def u64 (n : Int) : Int := IntKind.u64.wrap n
def frP (p : Int × Int × Int × Int × Int × Int) : List UInt8 :=
  byt (Sym.F.i2f .f64 p.2.2.1 : Nat) 8 ++ byt (u64 p.2.2.2.1) 2 ++ byt (u64 p.2.2.2.2.1) 4 ++ byt (u64 (p.2.2.2.2.2 + 1)) 2
def frL (l : List (Int × Int × Int × Int × Int × Int)) : List UInt8 := l.flatMap frP
def frH (r t n : Int) : List UInt8 := [83, 87] ++ byt (u64 r) 1 ++ byt (u64 t) 4 ++ byt (u64 n) 2
def frB (r t : Int) (l : List (Int × Int × Int × Int × Int × Int)) : List UInt8 := frH r t (l.length : Int) ++ frL l
def frame (r t : Int) (l : List (Int × Int × Int × Int × Int × Int)) : List UInt8 := frB r t l ++ byt (u64 (wsum (frB r t l))) 2
end F


theorem u64_bd (n : Int) : 0 ≤ IntKind.u64.wrap n ∧ IntKind.u64.wrap n < 18446744073709551616 := by
  rw [IntKind.wrap_u64]
  omega
def F.okP (p : Int × Int × Int × Int × Int × Int) : Prop := (0 ≤ p.2.2.1 ∧ p.2.2.1 ≤ 2000000) ∧ (0 ≤ p.2.2.2.1 ∧ p.2.2.2.1 ≤ 4095) ∧ (0 ≤ p.2.2.2.2.1 ∧ p.2.2.2.2.1 ≤ 60000) ∧ (-1 ≤ p.2.2.2.2.2 ∧ p.2.2.2.2.2 ≤ 4095)
theorem chkP_0 {r t : Int} {p : Int × Int × Int × Int × Int × Int} (h : F.chkP r t p = 0) : (p.1 = r ∧ p.2.1 = t) ∧ F.okP p := by
  obtain ⟨a, b, c, d, e, f⟩ := p
  by_cases k : a = r ∧ b = t
  · refine ⟨k, ?_⟩
    rw [chkP_in k.1 k.2] at h
    by_cases q : (0 ≤ c ∧ c ≤ 2000000) ∧ (0 ≤ d ∧ d ≤ 4095) ∧ (0 ≤ e ∧ e ≤ 60000) ∧ (-1 ≤ f ∧ f ≤ 4095)
    · exact q
    · rw [plot_no q] at h
      omega
  · rw [chkP_3 k] at h
    omega
theorem chkL_0 {r t : Int} : ∀ {l : List (Int × Int × Int × Int × Int × Int)}, F.chkL r t l = 0 → ∀ p ∈ l, (p.1 = r ∧ p.2.1 = t) ∧ F.okP p
  | [], _, _, hp => by cases hp
  | q :: l, h, p, hp => by
    rw [F.chkL] at h
    by_cases k : F.chkP r t q = 0
    · rw [if_pos k] at h
      rcases List.mem_cons.1 hp with e | e
      · subst e; exact chkP_0 k
      · exact chkL_0 h p e
    · rw [if_neg k] at h
      exact absurd h k
theorem chk_0 {r t : Int} {l : List (Int × Int × Int × Int × Int × Int)} (h : F.chk r t l = 0) : l.length ≤ 32 ∧ ((0 ≤ r ∧ r ≤ 255) ∧ (0 ≤ t ∧ t ≤ 200000)) ∧ F.chkL r t l = 0 := by
  by_cases k : 32 < l.length
  · unfold F.chk at h
    rw [if_pos k] at h
    omega
  · by_cases q : (0 ≤ r ∧ r ≤ 255) ∧ (0 ≤ t ∧ t ≤ 200000)
    · rw [chk_in k q.1 q.2] at h
      exact ⟨by omega, q, h⟩
    · rw [chk_out k q] at h
      omega
theorem i2f_bd {n : Int} (h : 0 ≤ n) (h1 : n ≤ 2000000) : ((Sym.F.i2f .f64 n : Nat) : Int) < 9223372036854775808 := by
  have e : n = ((n.toNat : Nat) : Int) := by omega
  rw [e, i2f_nat (by omega)]
  have := dbl_lt (n := n.toNat) (by omega)
  omega
theorem getD_mem {α : Type} {l : List α} {n : Nat} (d : α) (h : n < l.length) : l.getD n d ∈ l := by
  rw [List.getD_eq_getElem?_getD, List.getElem?_eq_getElem h]
  exact List.getElem_mem h
theorem frP_len (p : Int × Int × Int × Int × Int × Int) : (F.frP p).length = 16 := by
  simp [F.frP, byt_len]
theorem frH_len (r t n : Int) : (F.frH r t n).length = 9 := by
  simp [F.frH, byt_len]


def cuts_rfr : Cuts := [(3, [23, 24, 25, 3], 2)]

theorem rfr_t0 (r t : Int) (l : List (Int × Int × Int × Int × Int × Int)) (l_t : Bool) : symF C_byts cuts_rfr Try.f15.results.toList 1 400 [.code (codeOf Try.f15)] ⟨argsS Try.f15 [.agg [.int .i64 r, .int .i64 t, .slc 0 0 (List.length l) l_t]], ([.inp 2 l] : Heap cod)⟩ =
.need (((0 : Int) ≤ IntKind.wrap IntKind.u64 r ∧ (IntKind.wrap IntKind.u64 r < 18446744073709551616 ∧ ((0 : Int) ≤ 1 ∧ ((1 : Int) < Int.ofNat 9 ∧ (9 : Nat) ≤ 9))))) (
.need ((2 + 1 : Nat) ≤ 9223372036854775807) (
.need (((0 : Int) ≤ IntKind.wrap IntKind.u64 t ∧ (IntKind.wrap IntKind.u64 t < 18446744073709551616 ∧ ((0 : Int) ≤ 4 ∧ ((4 : Int) < Int.ofNat 9 ∧ (9 : Nat) ≤ 9))))) (
.need ((3 + 4 : Nat) ≤ 9223372036854775807) (
.need (((0 : Int) ≤ IntKind.wrap IntKind.u64 (Int.ofNat (List.length l)) ∧ (IntKind.wrap IntKind.u64 (Int.ofNat (List.length l)) < 18446744073709551616 ∧ ((0 : Int) ≤ 2 ∧ ((2 : Int) < Int.ofNat 9 ∧ (9 : Nat) ≤ 9))))) (
.need ((7 + 2 : Nat) ≤ 9223372036854775807) (
.ret (.cut (cutAt Try.f15 3) ⟨tmG 33 [(3, .c (.str ([83, 87] ++ F.byt (IntKind.wrap IntKind.u64 r) (Int.toNat 1) ++ F.byt (IntKind.wrap IntKind.u64 t) (Int.toNat 4) ++   F.byt (IntKind.wrap IntKind.u64 (Int.ofNat (List.length l))) (Int.toNat 2)))), (19, .c (.slc 0 0 (List.length l) l_t)), (0, .c (.int .i64 (Int.ofNat (List.length l)))), (0, .c (.int .i64 0))], [.inp 2 l, .blk [.int .i64 r, .int .i64 t, .slc 0 0 (List.length l) l_t] 24]⟩))))))) := by kernel_rfl


noncomputable def st_rfr_3 (r t : Int) (l : List (Int × Int × Int × Int × Int × Int)) (l_t : Bool) (j : Int) (s : List UInt8) : St cod := ⟨tmG 33 [(3, .c (.str s)), (19, .c (.slc 0 0 (List.length l) l_t)), (0, .c (.int .i64 (Int.ofNat (List.length l)))), (0, .c (.int .i64 j))], [.inp 2 l, .blk [.int .i64 r, .int .i64 t, .slc 0 0 (List.length l) l_t] 24]⟩


theorem rfr_t3 (r t : Int) (l : List (Int × Int × Int × Int × Int × Int)) (l_t : Bool) (j : Int) (s : List UInt8) : symF C_byts cuts_rfr Try.f15.results.toList 1 400 (cutAt Try.f15 3) (st_rfr_3 r t l l_t j s) =
 cond (decide (j < Int.ofNat (List.length l))) (
 .need (((0 : Int) ≤ j ∧ j < Int.ofNat (List.length l))) (
 .need (0 + Int.toNat j < List.length l) (
 .need (((0 : Int) ≤ Int.ofNat (F.i2f FloatKind.f64 (List.getD l (0 + Int.toNat j) (cod 2).d).2.2.1) ∧ (Int.ofNat (F.i2f FloatKind.f64 (List.getD l (0 + Int.toNat j) (cod 2).d).2.2.1) < 18446744073709551616 ∧ ((0 : Int) ≤ 8 ∧ ((8 : Int) < Int.ofNat 9 ∧ (9 : Nat) ≤ 9))))) (
 .need (((0 : Int) ≤ IntKind.wrap IntKind.u64 (List.getD l (0 + Int.toNat j) (cod 2).d).2.2.2.1 ∧ (IntKind.wrap IntKind.u64 (List.getD l (0 + Int.toNat j) (cod 2).d).2.2.2.1 < 18446744073709551616 ∧ ((0 : Int) ≤ 2 ∧ ((2 : Int) < Int.ofNat 9 ∧ (9 : Nat) ≤ 9))))) (
 .need ((8 + 2 : Nat) ≤ 9223372036854775807) (
 .need (((0 : Int) ≤ IntKind.wrap IntKind.u64 (List.getD l (0 + Int.toNat j) (cod 2).d).2.2.2.2.1 ∧ (IntKind.wrap IntKind.u64 (List.getD l (0 + Int.toNat j) (cod 2).d).2.2.2.2.1 < 18446744073709551616 ∧ ((0 : Int) ≤ 4 ∧ ((4 : Int) < Int.ofNat 9 ∧ (9 : Nat) ≤ 9))))) (
 .need ((10 + 4 : Nat) ≤ 9223372036854775807) (
 .need (Sym.i64ok ((List.getD l (0 + Int.toNat j) (cod 2).d).2.2.2.2.2 + 1)) (
 .need (((0 : Int) ≤ IntKind.wrap IntKind.u64 ((List.getD l (0 + Int.toNat j) (cod 2).d).2.2.2.2.2 + 1) ∧ (IntKind.wrap IntKind.u64 ((List.getD l (0 + Int.toNat j) (cod 2).d).2.2.2.2.2 + 1) < 18446744073709551616 ∧ ((0 : Int) ≤ 2 ∧ ((2 : Int) < Int.ofNat 9 ∧ (9 : Nat) ≤ 9))))) (
 .need ((14 + 2 : Nat) ≤ 9223372036854775807) (
 .need (List.length s + 16 ≤ 9223372036854775807) (
 .need (Sym.i64ok (j + 1)) (
 .ret (.cut (cutAt Try.f15 3) ⟨tmG 33 [(3, .c (.str (s ++   (F.byt (Int.ofNat (F.i2f FloatKind.f64 (List.getD l (0 + Int.toNat j) (cod 2).d).2.2.1)) (Int.toNat 8) ++         F.byt (IntKind.wrap IntKind.u64 (List.getD l (0 + Int.toNat j) (cod 2).d).2.2.2.1) (Int.toNat 2) ++       F.byt (IntKind.wrap IntKind.u64 (List.getD l (0 + Int.toNat j) (cod 2).d).2.2.2.2.1) (Int.toNat 4) ++     F.byt (IntKind.wrap IntKind.u64 ((List.getD l (0 + Int.toNat j) (cod 2).d).2.2.2.2.2 + 1)) (Int.toNat 2))))), (19, .c (.slc 0 0 (List.length l) l_t)), (0, .c (.int .i64 (Int.ofNat (List.length l)))), (0, .c (.int .i64 (j + 1)))], [.inp 2 l, .blk [.int .i64 r, .int .i64 t, .slc 0 0 (List.length l) l_t] 24]⟩)))))))))))))) (
 .need (List.length s ≤ 1000000) (
 .need (((0 : Int) ≤ IntKind.wrap IntKind.u64 (F.wsum s) ∧ (IntKind.wrap IntKind.u64 (F.wsum s) < 18446744073709551616 ∧ ((0 : Int) ≤ 2 ∧ ((2 : Int) < Int.ofNat 9 ∧ (9 : Nat) ≤ 9))))) (
 .need (List.length s + 2 ≤ 9223372036854775807) (
 .ret (.fin (.c (.str (s ++ F.byt (IntKind.wrap IntKind.u64 (F.wsum s)) (Int.toNat 2)))) []))))) := by kernel_rfl



theorem rfr_run (r t : Int) (l : List (Int × Int × Int × Int × Int × Int)) (l_t : Bool) (b0 : Base) (hb : b0.n = 1) (h0 : F.chk r t l = 0) : Sym.Runs Try.prog b0 [.code (codeOf Try.f15)] ⟨argsS Try.f15 [.agg [.int .i64 r, .int .i64 t, .slc 0 0 (List.length l) l_t]], ([.inp 2 l] : Heap cod)⟩ (Sym.Ends Try.prog Try.f15 1 (.c (.str (F.frame r t l))) []) := by
  obtain ⟨h32, _, hc⟩ := chk_0 h0
  have all := chkL_0 hc
  have key : ∀ (m : Nat) (j : Int) (s : List UInt8), 0 ≤ j → j + m = l.length → s ++ F.frL (l.drop j.toNat) = F.frB r t l → (s.length : Int) = 9 + 16 * j →
      Sym.Runs Try.prog b0 (cutAt Try.f15 3) (st_rfr_3 r t l l_t j s) (Sym.Ends Try.prog Try.f15 1 (.c (.str (F.frame r t l))) []) := by
    intro m
    induction m with
    | zero =>
      intro j s hj hm hs hl
      refine Runs.go (cfg := C_byts) L_byts_ok mixed cuts_rfr 400 hb (rfr_t3 r t l l_t j s) ?_
      have h1 : ¬ j < (l.length : Int) := by omega
      rw [drop_end l h1] at hs
      have e : s = F.frB r t l := by rw [← hs]; simp [F.frL]
      have ub := u64_bd (F.wsum s)
      simp only [T.wp, T.wp_cond, Aft, Int.ofNat_eq_natCast, decide_eq_true_eq, and_true, true_and, Nat.zero_add, Bool.not_eq_true', decide_eq_false_iff_not]
      refine ite_no h1 ⟨by omega, ⟨ub.1, ub.2, by decide, by decide, by decide⟩, by omega, ?_⟩
      rw [e]
      rfl
    | succ m ih =>
      intro j s hj hm hs hl
      refine Runs.go (cfg := C_byts) L_byts_ok mixed cuts_rfr 400 hb (rfr_t3 r t l l_t j s) ?_
      have h1 : j < (l.length : Int) := by omega
      rw [drop_at l (cod 2).d hj h1] at hs
      have hp := all (l.getD j.toNat (cod 2).d) (getD_mem _ (by omega))
      have nx := ih (j + 1) (s ++ F.frP (l.getD j.toNat (cod 2).d)) (by omega) (by omega) (by rw [← hs, List.append_assoc]; rfl) (by rw [List.length_append, frP_len]; omega)
      simp only [T.wp, T.wp_cond, Aft, Int.ofNat_eq_natCast, decide_eq_true_eq, and_true, true_and, Nat.zero_add, Bool.not_eq_true', decide_eq_false_iff_not, Nat.zero_add]
      generalize l.getD j.toNat (cod 2).d = p at *
      obtain ⟨a, b, c, d, e, f⟩ := p
      obtain ⟨_, q1, q2, q3, q4⟩ := hp
      simp only at q1 q2 q3 q4
      have ib := i2f_bd q1.1 q1.2
      have u1 := u64_bd d
      have u2 := u64_bd e
      have u3 := u64_bd (f + 1)
      exact ite_yes h1 ⟨⟨hj, h1⟩, by omega, ⟨Int.natCast_nonneg _, by show ((Sym.F.i2f .f64 c : Nat) : Int) < _; omega, by decide, by decide, by decide⟩, ⟨u1.1, u1.2, by decide, by decide, by decide⟩, by decide, ⟨u2.1, u2.2, by decide, by decide, by decide⟩, by decide, by show Sym.i64ok (f + 1); unfold Sym.i64ok; omega, ⟨u3.1, u3.2, by decide, by decide, by decide⟩, by decide, by omega, by unfold Sym.i64ok; omega, nx⟩
  refine Runs.go (cfg := C_byts) L_byts_ok mixed cuts_rfr 400 hb (rfr_t0 r t l l_t) ?_
  have u1 := u64_bd r
  have u2 := u64_bd t
  have u3 := u64_bd (l.length : Int)
  simp only [T.wp, T.wp_cond, Aft, Int.ofNat_eq_natCast, decide_eq_true_eq, and_true, true_and, Nat.zero_add, Bool.not_eq_true', decide_eq_false_iff_not]
  refine ⟨⟨u1.1, u1.2, by decide, by decide, by decide⟩, by decide, ⟨u2.1, u2.2, by decide, by decide, by decide⟩, by decide, ⟨u3.1, u3.2, by decide, by decide, by decide⟩, by decide, ?_⟩
  exact key l.length 0 (F.frH r t l.length) (by omega) (by omega) rfl (by rw [frH_len]; rfl)



noncomputable def s_rfr : Summ cod := fun args H => match args, H with
  | [.agg [.int .i64 r, .int .i64 t, .slc 0 l_i l_n l_t]], [o0] => (match o0.asInp 2 with | some l => .need ((l_i = 0 ∧ l_n = List.length l) ∧ (F.chk r t l = 0)) (.ret (.c (.str (F.frame r t l)), [])) | none => .fail)
  | _, _ => .fail


theorem rfr_sound : Sound Try.prog cod 15 s_rfr := sound_runs (cfg := C_byts) L_byts_ok mixed Try.func15 rfl rfl _ fun args H r news hg b0 hb => by
  unfold s_rfr at hg
  split at hg
  · skip
    split at hg
    · rename_i l hx0
      cases asInp_spec hx0
      simp only [T.gives, T.wp, Prod.mk.injEq] at hg
      obtain ⟨⟨⟨rfl, rfl⟩, q1⟩, rfl, rfl⟩ := hg
      exact rfr_run _ _ _ _ b0 hb (by assumption)
    · exact hg.elim
  · exact hg.elim

noncomputable def L_rfr : Sums cod := (15, .p s_rfr) :: L_byts
noncomputable def C_rfr : Cfg cod := mkC L_rfr

theorem L_rfr_ok : Snd Try.prog cod L_rfr := .cons rfr_sound L_byts_ok


end
end Go.Proofs.Ytbkpgpkeecnjpaa
