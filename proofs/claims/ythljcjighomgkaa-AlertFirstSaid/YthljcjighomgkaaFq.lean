/- Part of a claim: lemmas on the way to its theorem; each states its own conditions. -/
import Derived.Test.YthljcjighomgkaaFo
namespace Go.Proofs.Ythljcjighomgkaa
open Sym Go.RowKit
noncomputable section
set_option maxRecDepth 100000
set_option maxHeartbeats 4000000

namespace F
def clP (d h r lat ver p q : Int) : Bool := decide (d < (lat + r) * (lat + r)) && decide (h < ver + p + q)
def clC (d h r lat ver p q : Int) : Bool := decide (r < lat) && (decide (d < (lat - r) * (lat - r)) && decide (h < ver - p - q))
def told (n e want last : Int) : Bool := if want < 0 then decide (e = last) && decide (n = 0) else decide (e = 0) && decide (n = want)
end F


def cuts_told : Cuts := []

theorem told_t0 (n : Int) (e : Int) (want : Int) (last : Int) : symF C_certain cuts_told Try.f51.results.toList 1 400 [.code (codeOf Try.f51)] ⟨argsS Try.f51 [.c (.int .i64 n), .c (.int .i64 e), .c (.int .i64 want), .c (.ptr 0 0 0)], ([.rblk [.int .i64 last]] : Heap cod)⟩ =
 cond (decide (want < 0)) (
 cond (decide (e = last)) (
  .ret (.fin (.c (.bool (decide (n = 0)))) [])) (
  .ret (.fin (.c (.bool false)) []))) (
 cond (decide (e = 0)) (
  .ret (.fin (.c (.bool (decide (n = want)))) [])) (
  .ret (.fin (.c (.bool false)) []))) := by kernel_rfl



theorem told_run (n : Int) (e : Int) (want : Int) (last : Int) (b0 : Base) (hb : b0.n = 1)  : Sym.Runs Try.prog b0 [.code (codeOf Try.f51)] ⟨argsS Try.f51 [.c (.int .i64 n), .c (.int .i64 e), .c (.int .i64 want), .c (.ptr 0 0 0)], ([.rblk [.int .i64 last]] : Heap cod)⟩ (Sym.Ends Try.prog Try.f51 1 (.c (.bool (F.told n e want last))) []) := by
  refine Runs.go (cfg := C_certain) L_certain_ok mixed cuts_told 400 hb (told_t0 n e want last) ?_
  unfold F.told
  simp only [T.wp, T.wp_cond, Aft, Int.ofNat_eq_natCast, decide_eq_true_eq, and_true, true_and, Nat.zero_add, Bool.not_eq_true', decide_eq_false_iff_not]
  (repeat' split) <;> simp_all



noncomputable def s_told : Summ cod := fun args H => match args, H with
  | [.c (.int .i64 n), .c (.int .i64 e), .c (.int .i64 want), .c (.ptr 0 0 0)], [.rblk [.int .i64 last]] => .ret (.c (.bool (F.told n e want last)), [])
  | _, _ => .fail


theorem told_sound : Sound Try.prog cod 51 s_told := sound_runs (cfg := C_certain) L_certain_ok mixed Try.func51 rfl rfl _ fun args H r news hg b0 hb => by
  unfold s_told at hg
  split at hg
  · skip
    cases hg
    exact told_run _ _ _ _ b0 hb 
  · exact hg.elim

noncomputable def L_told : Sums cod := (51, .p s_told) :: L_certain
noncomputable def C_told : Cfg cod := mkC L_told

theorem L_told_ok : Snd Try.prog cod L_told := .cons told_sound L_certain_ok



def cuts_close : Cuts := []

theorem close_t0 (lat ver : Int) (p : Int) (q : Int) (i st t x y sx sy h r ra c hi mi sl lt lx ly lh lc le i2 st2 t2 x2 y2 sx2 sy2 h2 r2 ra2 c2 hi2 mi2 sl2 lt2 lx2 ly2 lh2 lc2 le2 : Int) : symF C_told cuts_close Try.f50.results.toList 0 400 [.code (codeOf Try.f50)] ⟨argsS Try.f50 [.agg [.int .i64 i, .int .i64 st, .int .i64 t, .int .i64 x, .int .i64 y, .int .i64 sx, .int .i64 sy, .int .i64 h, .int .i64 r, .int .i64 ra, .int .i64 c, .int .i64 hi, .int .i64 mi, .int .i64 sl, .int .i64 lt, .int .i64 lx, .int .i64 ly, .int .i64 lh, .int .i64 lc, .int .i64 le], .agg [.int .i64 i2, .int .i64 st2, .int .i64 t2, .int .i64 x2, .int .i64 y2, .int .i64 sx2, .int .i64 sy2, .int .i64 h2, .int .i64 r2, .int .i64 ra2, .int .i64 c2, .int .i64 hi2, .int .i64 mi2, .int .i64 sl2, .int .i64 lt2, .int .i64 lx2, .int .i64 ly2, .int .i64 lh2, .int .i64 lc2, .int .i64 le2], .agg [.int .i64 lat, .int .i64 ver], .c (.int .i64 p), .c (.int .i64 q)], ([] : Heap cod)⟩ =
.need ((F.b9 x ∧ (F.b9 y ∧ (F.b9 x2 ∧ F.b9 y2)))) (
.need (i64ok (F.apart h h2)) (
.need (i64ok (ra + ra2)) (
.need (i64ok (lat + (ra + ra2))) (
.need (i64ok (lat + (ra + ra2))) (
.need (i64ok ((lat + (ra + ra2)) * (lat + (ra + ra2)))) (
 cond (decide (F.far x y x2 y2 < (lat + (ra + ra2)) * (lat + (ra + ra2)))) (
 .need (i64ok (ver + p)) (
 .need (i64ok (ver + p + q)) (
 cond (decide (ra + ra2 < lat)) (
  .need (i64ok (lat - (ra + ra2))) (
  .need (i64ok (lat - (ra + ra2))) (
  .need (i64ok ((lat - (ra + ra2)) * (lat - (ra + ra2)))) (
  cond (decide (F.far x y x2 y2 < (lat - (ra + ra2)) * (lat - (ra + ra2)))) (
   .need (i64ok (ver - p)) (
   .need (i64ok (ver - p - q)) (
   .ret (.fin (.tup [.c (.bool (decide (F.apart h h2 < ver + p + q))), .c (.bool (decide (F.apart h h2 < ver - p - q)))]) [])))) (
   .ret (.fin (.tup [.c (.bool (decide (F.apart h h2 < ver + p + q))), .c (.bool false)]) [])))))) (
  .ret (.fin (.tup [.c (.bool (decide (F.apart h h2 < ver + p + q))), .c (.bool false)]) []))))) (
 cond (decide (ra + ra2 < lat)) (
  .need (i64ok (lat - (ra + ra2))) (
  .need (i64ok (lat - (ra + ra2))) (
  .need (i64ok ((lat - (ra + ra2)) * (lat - (ra + ra2)))) (
  cond (decide (F.far x y x2 y2 < (lat - (ra + ra2)) * (lat - (ra + ra2)))) (
   .need (i64ok (ver - p)) (
   .need (i64ok (ver - p - q)) (
   .ret (.fin (.tup [.c (.bool false), .c (.bool (decide (F.apart h h2 < ver - p - q)))]) [])))) (
   .ret (.fin (.tup [.c (.bool false), .c (.bool false)]) [])))))) (
  .ret (.fin (.tup [.c (.bool false), .c (.bool false)]) []))))))))) := by kernel_rfl



theorem close_run (lat ver : Int) (p : Int) (q : Int) (i st t x y sx sy h r ra c hi mi sl lt lx ly lh lc le i2 st2 t2 x2 y2 sx2 sy2 h2 r2 ra2 c2 hi2 mi2 sl2 lt2 lx2 ly2 lh2 lc2 le2 : Int) (b0 : Base) (hb : b0.n = 0) (h0 : (F.b9 x ∧ F.b9 y ∧ F.b9 x2 ∧ F.b9 y2) ∧ (F.b9 h ∧ F.b9 h2) ∧ (F.b9 (ra + ra2) ∧ F.b9 lat) ∧ (F.b9 ver ∧ F.b9 p ∧ F.b9 q)) : Sym.Runs Try.prog b0 [.code (codeOf Try.f50)] ⟨argsS Try.f50 [.agg [.int .i64 i, .int .i64 st, .int .i64 t, .int .i64 x, .int .i64 y, .int .i64 sx, .int .i64 sy, .int .i64 h, .int .i64 r, .int .i64 ra, .int .i64 c, .int .i64 hi, .int .i64 mi, .int .i64 sl, .int .i64 lt, .int .i64 lx, .int .i64 ly, .int .i64 lh, .int .i64 lc, .int .i64 le], .agg [.int .i64 i2, .int .i64 st2, .int .i64 t2, .int .i64 x2, .int .i64 y2, .int .i64 sx2, .int .i64 sy2, .int .i64 h2, .int .i64 r2, .int .i64 ra2, .int .i64 c2, .int .i64 hi2, .int .i64 mi2, .int .i64 sl2, .int .i64 lt2, .int .i64 lx2, .int .i64 ly2, .int .i64 lh2, .int .i64 lc2, .int .i64 le2], .agg [.int .i64 lat, .int .i64 ver], .c (.int .i64 p), .c (.int .i64 q)], ([] : Heap cod)⟩ (Sym.Ends Try.prog Try.f50 0 (.tup [.c (.bool (F.clP (F.far x y x2 y2) (F.apart h h2) (ra + ra2) lat ver p q)), .c (.bool (F.clC (F.far x y x2 y2) (F.apart h h2) (ra + ra2) lat ver p q))]) []) := by
  obtain ⟨⟨u1, u2, u3, u4⟩, ⟨u5, u6⟩, ⟨u7, u8⟩, u9, u10, u11⟩ := h0
  refine Runs.go (cfg := C_told) L_told_ok mixed cuts_close 400 hb (close_t0 lat ver p q i st t x y sx sy h r ra c hi mi sl lt lx ly lh lc le i2 st2 t2 x2 y2 sx2 sy2 h2 r2 ra2 c2 hi2 mi2 sl2 lt2 lx2 ly2 lh2 lc2 le2) ?_
  unfold F.clP F.clC
  have g0 : i64ok (F.apart h h2) := by unfold F.apart; unfold F.b9 at *; unfold i64ok; split <;> omega
  simp only [T.wp, T.wp_cond, Aft, Int.ofNat_eq_natCast, decide_eq_true_eq, and_true, true_and, Nat.zero_add, Bool.not_eq_true', decide_eq_false_iff_not, u1, u2, u3, u4, g0]
  generalize F.far x y x2 y2 = d at *
  generalize F.apart h h2 = k at *
  generalize ra + ra2 = z at *
  unfold F.b9 at *
  have k1 := sq_bd (x := lat + z) (a := 2000000000) (by omega)
  have k2 := sq_bd (x := lat - z) (a := 2000000000) (by omega)
  have g1 : i64ok (lat + z) := by unfold i64ok; omega
  have g2 : i64ok ((lat + z) * (lat + z)) := by unfold i64ok; omega
  have g3 : i64ok (ver + p) := by unfold i64ok; omega
  have g4 : i64ok (ver + p + q) := by unfold i64ok; omega
  have g5 : i64ok (lat - z) := by unfold i64ok; omega
  have g6 : i64ok ((lat - z) * (lat - z)) := by unfold i64ok; omega
  have g7 : i64ok (ver - p) := by unfold i64ok; omega
  have g8 : i64ok (ver - p - q) := by unfold i64ok; omega
  have g9 : i64ok z := by unfold i64ok; omega
  simp only [g1, g2, g3, g4, g5, g6, g7, g8, g9, true_and]
  generalize (lat + z) * (lat + z) = q1 at *
  generalize (lat - z) * (lat - z) = q2 at *
  (repeat' split) <;> simp_all <;> omega



noncomputable def s_close : Summ cod := fun args H => match args, H with
  | [.agg [.int .i64 i, .int .i64 st, .int .i64 t, .int .i64 x, .int .i64 y, .int .i64 sx, .int .i64 sy, .int .i64 h, .int .i64 r, .int .i64 ra, .int .i64 c, .int .i64 hi, .int .i64 mi, .int .i64 sl, .int .i64 lt, .int .i64 lx, .int .i64 ly, .int .i64 lh, .int .i64 lc, .int .i64 le], .agg [.int .i64 i2, .int .i64 st2, .int .i64 t2, .int .i64 x2, .int .i64 y2, .int .i64 sx2, .int .i64 sy2, .int .i64 h2, .int .i64 r2, .int .i64 ra2, .int .i64 c2, .int .i64 hi2, .int .i64 mi2, .int .i64 sl2, .int .i64 lt2, .int .i64 lx2, .int .i64 ly2, .int .i64 lh2, .int .i64 lc2, .int .i64 le2], .agg [.int .i64 lat, .int .i64 ver], .c (.int .i64 p), .c (.int .i64 q)], [] => .need (((F.b9 x ∧ F.b9 y ∧ F.b9 x2 ∧ F.b9 y2) ∧ (F.b9 h ∧ F.b9 h2) ∧ (F.b9 (ra + ra2) ∧ F.b9 lat) ∧ (F.b9 ver ∧ F.b9 p ∧ F.b9 q))) (.ret (.tup [.c (.bool (F.clP (F.far x y x2 y2) (F.apart h h2) (ra + ra2) lat ver p q)), .c (.bool (F.clC (F.far x y x2 y2) (F.apart h h2) (ra + ra2) lat ver p q))], []))
  | _, _ => .fail


theorem close_sound : Sound Try.prog cod 50 s_close := sound_runs (cfg := C_told) L_told_ok mixed Try.func50 rfl rfl _ fun args H r news hg b0 hb => by
  unfold s_close at hg
  split at hg
  · skip
    simp only [T.gives, T.wp, Prod.mk.injEq] at hg
    obtain ⟨q0, rfl, rfl⟩ := hg
    exact close_run _ _ _ _ _ _ _ _ _ _ _ _ _ _ _ _ _ _ _ _ _ _ _ _ _ _ _ _ _ _ _ _ _ _ _ _ _ _ _ _ _ _ _ _ b0 hb (by assumption)
  · exact hg.elim

noncomputable def L_close : Sums cod := (50, .p s_close) :: L_told
noncomputable def C_close : Cfg cod := mkC L_close

theorem L_close_ok : Snd Try.prog cod L_close := .cons close_sound L_told_ok


end
end Go.Proofs.Ythljcjighomgkaa
