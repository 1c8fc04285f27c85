/- Part of a claim: lemmas on the way to its theorem; each states its own conditions. -/
import Derived.Test.YthljcjighomgkaaFb
namespace Go.Proofs.Ythljcjighomgkaa
open Sym Go.RowKit
noncomputable section
set_option maxRecDepth 100000
set_option maxHeartbeats 4000000

abbrev J : SV := .c .junk
abbrev U : SV := undefS
def cutsCheck : Cuts := [(4, [0, 8, 9, 10], 1)]
def stCheck (l : List (Int × Int)) (tt : Bool) (i : Int) : St cod := ⟨[.c (.slc 0 0 (List.length l) tt), J, J, J, J, J, J, J, .c (.slc 0 0 (List.length l) tt), .c (.int .i64 (↑(List.length l))), .c (.int .i64 i), J, J, J, J, J, J, J, J, J, J, J, J, J, J, J, J, J, J, J, J, J, J, J, J, J, J, J, J, J, J, J, J, J, J, J, J], [.inp 1 l]⟩
namespace F
def repGo (first : Bool) (p : Int) : List (Int × Int) → Int
  | [] => 0
  | (t, v) :: r => if t < 0 then 4 else if 200000 < t then 4 else if v < 0 then 4 else if 600 < v then 4 else if first = false ∧ t ≤ p then 12 else repGo false t r
def rep (l : List (Int × Int)) : Int := if 64 < l.length then 2 else repGo true 0 l
end F

theorem check_t0 (l : List (Int × Int)) (tt : Bool) : symF C_divup cutsCheck Try.f21.results.toList 1 400 [.code (codeOf Try.f21)] ⟨argsS Try.f21 [.c (.slc 0 0 l.length tt)], [.inp 1 l]⟩ =
 cond (decide (64 < Int.ofNat (List.length l))) (
 .ret (.fin (.c (.int .i64 2)) [])) (
 .ret (.cut (cutAt Try.f21 4) ⟨tmG 36 [(0, .c (.slc 0 0 (List.length l) tt)), (7, .c (.slc 0 0 (List.length l) tt)), (0, .c (.int .i64 (Int.ofNat (List.length l)))), (0, .c (.int .i64 0))], [.inp 1 l]⟩)) := by kernel_rfl


theorem check_t1 (l : List (Int × Int)) (tt : Bool) (i : Int) : symF C_divup cutsCheck Try.f21.results.toList 1 400 (cutAt Try.f21 4) (stCheck l tt i) =
 cond (decide (i < Int.ofNat (List.length l))) (
 .need ((0 ≤ i ∧ i < Int.ofNat (List.length l))) (
 .need (0 + Int.toNat i < List.length l) (
 cond (decide ((List.getD l (0 + Int.toNat i) (cod 1).d).1 < 0)) (
  .ret (.fin (.c (.int .i64 4)) [])) (
  cond (decide (200000 < (List.getD l (0 + Int.toNat i) (cod 1).d).1)) (
   .ret (.fin (.c (.int .i64 4)) [])) (
   cond (decide ((List.getD l (0 + Int.toNat i) (cod 1).d).2 < 0)) (
    .ret (.fin (.c (.int .i64 4)) [])) (
    cond (decide (600 < (List.getD l (0 + Int.toNat i) (cod 1).d).2)) (
     .ret (.fin (.c (.int .i64 4)) [])) (
     cond (decide (0 < i)) (
      .need (i64ok (i - 1)) (
      .need ((0 ≤ i - 1 ∧ i - 1 < Int.ofNat (List.length l))) (
      .need (0 + Int.toNat (i - 1) < List.length l) (
      cond (decide ((List.getD l (0 + Int.toNat i) (cod 1).d).1 ≤ (List.getD l (0 + Int.toNat (i - 1)) (cod 1).d).1)) (
       .ret (.fin (.c (.int .i64 12)) [])) (
       .need (i64ok (i + 1)) (
       .ret (.cut (cutAt Try.f21 4) ⟨tmG 36 [(0, .c (.slc 0 0 (List.length l) tt)), (7, .c (.slc 0 0 (List.length l) tt)), (0, .c (.int .i64 (Int.ofNat (List.length l)))), (0, .c (.int .i64 (i + 1)))], [.inp 1 l]⟩))))))) (
      .need (i64ok (i + 1)) (
      .ret (.cut (cutAt Try.f21 4) ⟨tmG 36 [(0, .c (.slc 0 0 (List.length l) tt)), (7, .c (.slc 0 0 (List.length l) tt)), (0, .c (.int .i64 (Int.ofNat (List.length l)))), (0, .c (.int .i64 (i + 1)))], [.inp 1 l]⟩)))))))))) (
 .ret (.fin (.c (.int .i64 0)) [])) := by kernel_rfl



theorem drop_at {α : Type} (l : List α) (d : α) {i : Int} (h0 : 0 ≤ i) (h1 : i < l.length) : l.drop i.toNat = l.getD i.toNat d :: l.drop (i + 1).toNat := by
  have h2 : i.toNat < l.length := by omega
  have h3 : (i + 1).toNat = i.toNat + 1 := by omega
  rw [h3, List.drop_eq_getElem_cons h2]
  simp [List.getD, List.getElem?_eq_getElem h2]
theorem check_loop (l : List (Int × Int)) (tt : Bool) (hl : l.length ≤ 64) (b0 : Base) (hb : b0.n = 1) : ∀ (m : Nat) (i : Int), 0 ≤ i → i + m = l.length →
    Sym.Runs Try.prog b0 (cutAt Try.f21 4) (stCheck l tt i) (Sym.Ends Try.prog Try.f21 b0.n (.c (.int .i64 (F.repGo (decide (i = 0)) (l.getD (i - 1).toNat (0, 0)).1 (l.drop i.toNat)))) []) := by
  intro m
  induction m with
  | zero =>
    intro i h0 hm
    refine Sym.Runs.of_symF (cfg := C_divup) L_divup_ok mixed 400 (cuts := cutsCheck) rfl ?_
    rw [hb, check_t1]
    have h1 : ¬ i < (l.length : Int) := by omega
    have h2 : l.drop i.toNat = [] := List.drop_of_length_le (by omega)
    simp only [T.wp, T.wp_cond, Aft, Int.ofNat_eq_natCast, decide_eq_true_eq, h1, h2, if_false, F.repGo, and_self]
  | succ m ih =>
    intro i h0 hm
    refine Sym.Runs.of_symF (cfg := C_divup) L_divup_ok mixed 400 (cuts := cutsCheck) rfl ?_
    rw [hb, check_t1]
    have h1 : i < (l.length : Int) := by omega
    have hn := ih (i + 1) (by omega) (by omega)
    rw [hb] at hn
    have e1 : decide (i + 1 = 0) = false := by simp; omega
    have e2 : (i + 1 - 1).toNat = i.toNat := by omega
    rw [e1, e2] at hn
    rw [drop_at l (0, 0) h0 h1]
    have hd : (cod 1).d = (0, 0) := rfl
    have k1 : 0 + i.toNat < l.length := by omega
    have k2 : i64ok (i + 1) := by unfold i64ok; omega
    simp only [hd, Nat.zero_add] at *
    generalize l.getD i.toNat (0, 0) = e at *
    obtain ⟨t, v⟩ := e
    simp only [T.wp, T.wp_cond, Aft, Int.ofNat_eq_natCast, decide_eq_true_eq, h1, if_true, F.repGo, and_true]
    refine ⟨h0, k1, ?_⟩
    by_cases g1 : t < 0
    · simp only [g1, if_true]
    by_cases g2 : 200000 < t
    · simp only [g1, g2, if_true, if_false]
    by_cases g3 : v < 0
    · simp only [g1, g2, g3, if_true, if_false]
    by_cases g4 : 600 < v
    · simp only [g1, g2, g3, g4, if_true, if_false]
    by_cases g5 : 0 < i
    · have k3 : i64ok (i - 1) := by unfold i64ok; omega
      have k4 : 0 ≤ i - 1 ∧ i - 1 < (l.length : Int) := by omega
      have k5 : (i - 1).toNat < l.length := by omega
      have k6 : decide (i = 0) = false := by simp; omega
      by_cases g6 : t ≤ (l.getD (i - 1).toNat (0, 0)).1
      · simp only [g1, g2, g3, g4, g5, g6, k3, k4, k5, k6, if_true, if_false, and_self]
      · simp only [g1, g2, g3, g4, g5, g6, k2, k3, k4, k5, k6, if_true, if_false, true_and, and_false]
        exact hn
    · have k6 : decide (i = 0) = true := by simp; omega
      simp only [g1, g2, g3, g4, g5, k2, k6, if_false, true_and, Bool.true_eq_false, false_and]
      exact hn
theorem rep_first (p : Int) (l : List (Int × Int)) : F.repGo true p l = F.repGo true 0 l := by
  cases l with
  | nil => rfl
  | cons e r => simp [F.repGo]
theorem check_body (l : List (Int × Int)) (tt : Bool) (b0 : Base) (hb : b0.n = 1) : (symF C_divup cutsCheck Try.f21.results.toList 1 400 [.code (codeOf Try.f21)] ⟨argsS Try.f21 [.c (.slc 0 0 l.length tt)], [.inp 1 l]⟩).wp
    (Aft Try.prog b0 (Sym.Ends Try.prog Try.f21 1 (.c (.int .i64 (F.rep l))) []) (.c (.int .i64 (F.rep l))) []) := by
  rw [check_t0]
  unfold F.rep
  by_cases h : (64 : Int) < l.length
  · have h' : 64 < l.length := by omega
    simp [T.wp, T.wp_cond, Aft, h, h']
  · have h' : ¬ 64 < l.length := by omega
    simp only [T.wp, T.wp_cond, Aft, Int.ofNat_eq_natCast, decide_eq_true_eq, h, h', if_false]
    have := check_loop l tt (by omega) b0 hb l.length 0 (by omega) (by omega)
    rw [hb] at this
    have e : F.repGo (decide ((0 : Int) = 0)) (l.getD ((0 : Int) - 1).toNat (0, 0)).1 (l.drop (0 : Int).toNat) = F.repGo true 0 l := rep_first _ l
    rw [e] at this
    exact this
def s_ccheck : Summ cod := fun args H => match H with
  | [.inp u l] => if h : u = 1 then (match args with
    | [.c (.slc 0 i n _)] => .need (i = 0 ∧ n = l.length) (.ret (.c (.int .i64 (F.rep (h ▸ l : List (cod 1).α))), []))
    | _ => .fail) else .fail
  | _ => .fail
theorem ccheck_sound : Sound Try.prog cod 21 s_ccheck := sound_loop (cfg := C_divup) L_divup_ok mixed Try.func21 rfl rfl cutsCheck _ 400 fun args H r news hg b0 hb => by
  unfold s_ccheck at hg
  split at hg
  · rename_i u l
    split at hg
    · rename_i hu
      subst hu
      split at hg
      · rename_i i n tt
        simp only [T.gives, T.wp, Prod.mk.injEq] at hg
        obtain ⟨⟨rfl, rfl⟩, rfl, rfl⟩ := hg
        exact check_body l tt b0 hb
      · exact hg.elim
    · exact hg.elim
  · exact hg.elim

end
end Go.Proofs.Ythljcjighomgkaa
