/- Part of a claim: lemmas on the way to its theorem; each states its own conditions. -/
import Derived.Test.YtbkpgpkeecnjpaaHs
import Derived.Test.YtbkpgpkeecnjpaaMedP
namespace Go.Proofs.Ytbkpgpkeecnjpaa
open Sym Go.RowKit
noncomputable section
set_option maxRecDepth 100000
set_option maxHeartbeats 4000000

namespace F
def dif (a b : Int) : Int := if 2048 < (b - a) % 4096 then (b - a) % 4096 - 4096 else (b - a) % 4096
def bchk (r a t : Int) : Int := if inb r (-10000) 10000 && (inb a (-2047) 2048 && inb t (-1000) 1000) then 0 else 4
def med (l : List Int) : Int := (sortI l).getD ((l.length - 1) / 2) 0
def zz (e v : Int) : Int := if e = 0 then v else 0
def plot6 (x : C6) : Int := plot x.1 x.2.1 x.2.2.1 x.2.2.2.1 x.2.2.2.2.1 x.2.2.2.2.2
def errN (l : List C6) : Nat → Nat → Int
  | 0, _ => 0
  | m + 1, j => if plot6 (l.getD j d6) ≠ 0 then plot6 (l.getD j d6) else errN l m (j + 1)
def listN (f : C6 → C6 → Int) (a b : List C6) : Nat → Nat → List Int
  | 0, _ => []
  | m + 1, j => f (a.getD j d6) (b.getD j d6) :: listN f a b m (j + 1)
def fR (p q : C6) : Int := q.2.2.1 - p.2.2.1
def fA (p q : C6) : Int := dif p.2.2.2.1 q.2.2.2.1
def fT (p q : C6) : Int := q.2.1 - p.2.1
def mR (a b : List C6) : Int := med (listN fR a b a.length 0)
def mA (a b : List C6) : Int := med (listN fA a b a.length 0)
def mT (a b : List C6) : Int := med (listN fT a b a.length 0)
def estE (a b : List C6) : Int := if 256 < a.length ∨ 256 < b.length then 2 else (if errN a a.length 0 ≠ 0 then errN a a.length 0 else (if errN b b.length 0 ≠ 0 then errN b b.length 0 else (if a.length ≠ b.length then 3 else (if a.length = 0 then 8 else bchk (mR a b) (mA a b) (mT a b)))))
end F


theorem norm_eq (h : Int) : Int.tmod (Int.tmod h 4096 + 4096) 4096 = h % 4096 := by
  have h1 := Int.lt_tmod_of_pos h (show (0 : Int) < 4096 by decide)
  have h2 := Int.tmod_lt_of_pos h (show (0 : Int) < 4096 by decide)
  have h3 := Int.mul_tdiv_add_tmod h 4096
  rw [Int.tmod_eq_emod_of_nonneg (by omega)]
  omega

noncomputable def s_norm : Summ cod := fun args H => match H with
  | [] => match rd args with
    | some [[h]] => (.need (i64ok h) (.ret (.c (.int .i64 (h % 4096)), [])))
    | _ => .fail
  | _ => .fail

theorem norm_tree (h : Int) : symF C_sameI [] Try.f78.results.toList (List.length ([] : Heap cod)) 400 [.code (codeOf Try.f78)] ⟨argsS Try.f78 [.c (.int .i64 h)], []⟩ =
.need ((4096 : Int) ≠ 0) (
.need (i64ok (Int.tmod h 4096 + 4096)) (
.need ((4096 : Int) ≠ 0) (
.ret (.fin (.c (.int .i64 (Int.tmod (Int.tmod h 4096 + 4096) 4096))) [])))) := by kernel_rfl

theorem norm_sound : Sound Try.prog cod 78 s_norm := sound_flat (cfg := C_sameI) L_sameI_ok mixed Try.func78 rfl rfl _ 400 fun args H r news hg => by
  unfold s_norm at hg
  split at hg
  · split at hg
    · rename_i h hrd
      have hargs := rd_spec hrd
      simp only [List.map, wr1, ints, List.tail] at hargs
      subst hargs
      clear hrd
      rw [norm_tree]
      simp only [T.gives, T.wp, Prod.mk.injEq] at hg
      obtain ⟨h1, rfl, rfl⟩ := hg
      simp only [T.wp, T.wp_cond, Fin.fin.injEq, SV.c.injEq, SV.tup.injEq, SV.agg.injEq, List.cons.injEq, Cell.bool.injEq, Cell.int.injEq, and_true, true_and, decide_eq_true_eq]
      have h2 := Int.lt_tmod_of_pos h (show (0 : Int) < 4096 by decide)
      have h3 := Int.tmod_lt_of_pos h (show (0 : Int) < 4096 by decide)
      rw [norm_eq]
      refine ⟨by omega, ?_, by omega, rfl⟩
      unfold i64ok
      omega
    · exact hg.elim
  · exact hg.elim

noncomputable def L_norm : Sums cod := (78, .p s_norm) :: L_sameI
noncomputable def C_norm : Cfg cod := mkC L_norm

theorem L_norm_ok : Snd Try.prog cod L_norm := .cons norm_sound L_sameI_ok

noncomputable def s_diff : Summ cod := fun args H => match H with
  | [] => match rd args with
    | some [[a], [b]] => (.need (i64ok (b - a)) (.ret (.c (.int .i64 (F.dif a b)), [])))
    | _ => .fail
  | _ => .fail

theorem diff_tree (a b : Int) : symF C_norm [] Try.f54.results.toList (List.length ([] : Heap cod)) 400 [.code (codeOf Try.f54)] ⟨argsS Try.f54 [.c (.int .i64 a), .c (.int .i64 b)], []⟩ =
.need (i64ok (b - a)) (
.need (i64ok (b - a)) (
 cond (decide (2048 < (b - a) % 4096)) (
 .need (i64ok ((b - a) % 4096 - 4096)) (
 .ret (.fin (.c (.int .i64 ((b - a) % 4096 - 4096))) []))) (
 .ret (.fin (.c (.int .i64 ((b - a) % 4096))) [])))) := by kernel_rfl

theorem diff_sound : Sound Try.prog cod 54 s_diff := sound_flat (cfg := C_norm) L_norm_ok mixed Try.func54 rfl rfl _ 400 fun args H r news hg => by
  unfold s_diff at hg
  split at hg
  · split at hg
    · rename_i a b hrd
      have hargs := rd_spec hrd
      simp only [List.map, wr1, ints, List.tail] at hargs
      subst hargs
      clear hrd
      rw [diff_tree]
      simp only [T.gives, T.wp, Prod.mk.injEq] at hg
      obtain ⟨h1, rfl, rfl⟩ := hg
      simp only [T.wp, T.wp_cond, Fin.fin.injEq, SV.c.injEq, SV.tup.injEq, SV.agg.injEq, List.cons.injEq, Cell.bool.injEq, Cell.int.injEq, and_true, true_and, decide_eq_true_eq]
      unfold F.dif
      have h2 := Int.emod_nonneg (b - a) (show (4096 : Int) ≠ 0 by decide)
      have h3 := Int.emod_lt_of_pos (b - a) (show (0 : Int) < 4096 by decide)
      split
      · rename_i hq
        simp only [hq, if_true]
        exact ⟨h1, h1, by unfold i64ok; omega, trivial⟩
      · rename_i hq
        simp only [hq, if_false]
        exact ⟨h1, h1, trivial⟩
    · exact hg.elim
  · exact hg.elim

noncomputable def L_diff : Sums cod := (54, .p s_diff) :: L_norm
noncomputable def C_diff : Cfg cod := mkC L_diff

theorem L_diff_ok : Snd Try.prog cod L_diff := .cons diff_sound L_norm_ok

noncomputable def s_bcheck : Summ cod := fun args H => match H with
  | [] => match rd args with
    | some [[_, r, a, t]] => (.ret (.c (.int .i64 (F.bchk r a t)), []))
    | _ => .fail
  | _ => .fail

theorem bcheck_tree (r a t : Int) : symF C_diff [] Try.f30.results.toList (List.length ([] : Heap cod)) 400 [.code (codeOf Try.f30)] ⟨argsS Try.f30 [.agg [.int .i64 r, .int .i64 a, .int .i64 t]], []⟩ =
 cond (decide (r < -10000)) (
 .ret (.fin (.c (.int .i64 4)) [])) (
 cond (decide (10000 < r)) (
  .ret (.fin (.c (.int .i64 4)) [])) (
  cond (decide (a < -2047)) (
   .ret (.fin (.c (.int .i64 4)) [])) (
   cond (decide (2048 < a)) (
    .ret (.fin (.c (.int .i64 4)) [])) (
    cond (decide (t < -1000)) (
     .ret (.fin (.c (.int .i64 4)) [])) (
     cond (decide (1000 < t)) (
      .ret (.fin (.c (.int .i64 4)) [])) (
      .ret (.fin (.c (.int .i64 0)) []))))))) := by kernel_rfl

theorem bcheck_sound : Sound Try.prog cod 30 s_bcheck := sound_flat (cfg := C_diff) L_diff_ok mixed Try.func30 rfl rfl _ 400 fun args H r news hg => by
  unfold s_bcheck at hg
  split at hg
  · split at hg
    · rename_i _ r a t hrd
      have hargs := rd_spec hrd
      simp only [List.map, wr1, ints, List.tail] at hargs
      subst hargs
      clear hrd
      rw [bcheck_tree]
      try simp only [T.gives, T.wp, Prod.mk.injEq] at hg
      obtain ⟨rfl, rfl⟩ := hg
      simp only [T.wp, T.wp_cond, Fin.fin.injEq, SV.c.injEq, Cell.bool.injEq, Cell.int.injEq, and_true, true_and, decide_eq_true_eq, F.bchk, F.inb]
      (repeat' split) <;> simp_all <;> omega
    · exact hg.elim
  · exact hg.elim

noncomputable def L_bcheck : Sums cod := (30, .p s_bcheck) :: L_diff
noncomputable def C_bcheck : Cfg cod := mkC L_bcheck

theorem L_bcheck_ok : Snd Try.prog cod L_bcheck := .cons bcheck_sound L_diff_ok


noncomputable def s_bmed : Summ cod := autoSI C_bcheck Try.f55 400


theorem bmed_sound : SoundI Try.prog cod 55 s_bmed := autoI_sound (cfg := C_bcheck) L_bcheck_ok mixed Try.func55 rfl rfl 400

noncomputable def L_bmed : Sums cod := (55, .i s_bmed) :: L_bcheck
noncomputable def C_bmed : Cfg cod := mkC L_bmed

theorem L_bmed_ok : Snd Try.prog cod L_bmed := .consI bmed_sound L_bcheck_ok



def cuts_turn : Cuts := [(2, [5, 0, 1], 0)]

theorem turn_t0 (a : Int) (b : Int) : symF C_bmed cuts_turn Try.f27.results.toList 0 400 [.code (codeOf Try.f27)] ⟨argsS Try.f27 [.c (.int .i64 a), .c (.int .i64 b)], ([] : Heap cod)⟩ =
.ret (.cut (cutAt Try.f27 2) ⟨tmG 14 [(0, .c (.int .i64 a)), (0, .c (.int .i64 b)), (3, .c (.int .i64 (-2047)))], []⟩) := by kernel_rfl


noncomputable def st_turn_2 (a : Int) (b : Int) (d : Int) : St cod := ⟨tmG 14 [(0, .c (.int .i64 a)), (0, .c (.int .i64 b)), (3, .c (.int .i64 d))], []⟩


theorem turn_t2 (a : Int) (b : Int) (d : Int) : symF C_bmed cuts_turn Try.f27.results.toList 0 400 (cutAt Try.f27 2) (st_turn_2 a b d) =
 cond (decide (d ≤ 2048)) (
 .need (i64ok (b - a)) (
 .need (i64ok (b - a - d)) (
 .need ((4096 : Int) ≠ 0) (
 .need (i64ok (Int.tmod (b - a - d) 4096 + 4096)) (
 .need ((4096 : Int) ≠ 0) (
 cond (decide (Int.tmod (Int.tmod (b - a - d) 4096 + 4096) 4096 = 0)) (
  .ret (.fin (.c (.int .i64 d)) [])) (
  .need (i64ok (d + 1)) (
  .ret (.cut (cutAt Try.f27 2) ⟨tmG 14 [(0, .c (.int .i64 a)), (0, .c (.int .i64 b)), (3, .c (.int .i64 (d + 1)))], []⟩))))))))) (
 .ret (.fin (.c (.int .i64 0)) [])) := by kernel_rfl



theorem turn_loop (a b : Int) (h : -100000 ≤ b - a ∧ b - a ≤ 100000) (b0 : Base) (hb0 : b0.n = 0) : ∀ (m : Nat) (d : Int), -2047 ≤ d → d + m = F.dif a b →
    Sym.Runs Try.prog b0 (cutAt Try.f27 2) (st_turn_2 a b d) (Sym.Ends Try.prog Try.f27 0 (.c (.int .i64 (F.dif a b))) []) := by
  have h2 := Int.emod_nonneg (b - a) (show (4096 : Int) ≠ 0 by decide)
  have h3 := Int.emod_lt_of_pos (b - a) (show (0 : Int) < 4096 by decide)
  have hD : F.dif a b = (if 2048 < (b - a) % 4096 then (b - a) % 4096 - 4096 else (b - a) % 4096) := rfl
  have hD2 : -2047 ≤ F.dif a b ∧ F.dif a b ≤ 2048 ∧ (b - a - F.dif a b) % 4096 = 0 := by
    rw [hD]
    split <;> omega
  clear hD
  generalize F.dif a b = D at *
  intro m
  induction m with
  | zero =>
    intro d h0 hm
    have e : d = D := by omega
    subst e
    have k1 : d ≤ 2048 := by omega
    have u1 : i64ok (b - a) := by unfold i64ok; omega
    have u2 : i64ok (b - a - d) := by unfold i64ok; omega
    have t1 := Int.lt_tmod_of_pos (b - a - d) (show (0 : Int) < 4096 by decide)
    have t2 := Int.tmod_lt_of_pos (b - a - d) (show (0 : Int) < 4096 by decide)
    have u3 : i64ok (Int.tmod (b - a - d) 4096 + 4096) := by unfold i64ok; omega
    refine Runs.go (cfg := C_bmed) L_bmed_ok mixed cuts_turn 400 hb0 (turn_t2 a b d) ?_
    simp only [T.wp, T.wp_cond, Aft, Int.ofNat_eq_natCast, decide_eq_true_eq, and_true, true_and, Nat.zero_add, Bool.not_eq_true', decide_eq_false_iff_not, k1, u1, u2, u3, norm_eq, hD2.2.2, if_true]
    decide
  | succ m ih =>
    intro d h0 hm
    have nx := ih (d + 1) (by omega) (by omega)
    have k1 : d ≤ 2048 := by omega
    have u1 : i64ok (b - a) := by unfold i64ok; omega
    have u2 : i64ok (b - a - d) := by unfold i64ok; omega
    have t1 := Int.lt_tmod_of_pos (b - a - d) (show (0 : Int) < 4096 by decide)
    have t2 := Int.tmod_lt_of_pos (b - a - d) (show (0 : Int) < 4096 by decide)
    have u3 : i64ok (Int.tmod (b - a - d) 4096 + 4096) := by unfold i64ok; omega
    have u4 : i64ok (d + 1) := by unfold i64ok; omega
    have k2 : ¬ (b - a - d) % 4096 = 0 := by omega
    refine Runs.go (cfg := C_bmed) L_bmed_ok mixed cuts_turn 400 hb0 (turn_t2 a b d) ?_
    simp only [T.wp, T.wp_cond, Aft, Int.ofNat_eq_natCast, decide_eq_true_eq, and_true, true_and, Nat.zero_add, Bool.not_eq_true', decide_eq_false_iff_not, k1, k2, u1, u2, u3, u4, norm_eq, if_true, if_false]
    exact ⟨by decide, by decide, nx⟩
theorem turn_run (a : Int) (b : Int) (b0 : Base) (hb : b0.n = 0) (h0 : -100000 ≤ b - a ∧ b - a ≤ 100000) : Sym.Runs Try.prog b0 [.code (codeOf Try.f27)] ⟨argsS Try.f27 [.c (.int .i64 a), .c (.int .i64 b)], ([] : Heap cod)⟩ (Sym.Ends Try.prog Try.f27 0 (.c (.int .i64 (F.dif a b))) []) := by
  have h2 := Int.emod_nonneg (b - a) (show (4096 : Int) ≠ 0 by decide)
  have h3 := Int.emod_lt_of_pos (b - a) (show (0 : Int) < 4096 by decide)
  refine Runs.go (cfg := C_bmed) L_bmed_ok mixed cuts_turn 400 hb (turn_t0 a b) ?_
  simp only [T.wp, T.wp_cond, Aft, Int.ofNat_eq_natCast, decide_eq_true_eq, and_true, true_and, Nat.zero_add, Bool.not_eq_true', decide_eq_false_iff_not]
  refine turn_loop a b h0 b0 hb (F.dif a b + 2047).toNat (-2047) (by omega) ?_
  unfold F.dif
  split <;> omega



noncomputable def s_turn : Summ cod := fun args H => match args, H with
  | [.c (.int .i64 a), .c (.int .i64 b)], [] => .need ((-100000 ≤ b - a ∧ b - a ≤ 100000)) (.ret (.c (.int .i64 (F.dif a b)), []))
  | _, _ => .fail


theorem turn_sound : Sound Try.prog cod 27 s_turn := sound_runs (cfg := C_bmed) L_bmed_ok mixed Try.func27 rfl rfl _ fun args H r news hg b0 hb => by
  unfold s_turn at hg
  split at hg
  · skip
    simp only [T.gives, T.wp, Prod.mk.injEq] at hg
    obtain ⟨q0, rfl, rfl⟩ := hg
    exact turn_run _ _ b0 hb (by assumption)
  · exact hg.elim

noncomputable def L_turn : Sums cod := (27, .p s_turn) :: L_bmed
noncomputable def C_turn : Cfg cod := mkC L_turn

theorem L_turn_ok : Snd Try.prog cod L_turn := .cons turn_sound L_bmed_ok


end
end Go.Proofs.Ytbkpgpkeecnjpaa
