/- Part of a claim: lemmas on the way to its theorem; each states its own conditions. -/
import Derived.Test.YthljcjighomgkaaFp
namespace Go.Proofs.Ythljcjighomgkaa
open Sym Go.RowKit
noncomputable section
set_option maxRecDepth 100000
set_option maxHeartbeats 8000000

namespace F
def mix (a b g : Int) : Int := a + (b - a) * g / 256
def usp (s v lv d sp : Int) : Int := mix s (16 * (v - lv) / d) sp
def urate (sh lh d : Int) : Int := clamp (16 * (sh - lh) / d) (-3200) 3200
def urad (pl p se : Int) : Int := -(-((256 - pl) * p + pl * se) / 256) + 2
def um (se le d a : Int) : Int := -(-(16 * (se + le)) / d) + 16 * a * d + 2
def usl (sp p m : Int) : Int := -(-((256 - sp) * p + sp * m) / 256) + 2
def ucode (sc c : Int) : Int := if sc = -1 then c else sc
def updE (i st t x y sx sy h r ra c hi mi sl lt lx ly lh lc le st_ sx_ sy_ sh sc se a pl sp : Int) : Int := if F.trackE i st t x y sx sy h r ra c hi mi sl lt lx ly lh lc le = 0 then (if spot st_ sx_ sy_ sh sc se = 0 then (if inb pl 0 256 && inb sp 0 256 then (if (st_ - lt) ≤ 0 then 12 else if F.predE i st t x y sx sy h r ra c hi mi sl lt lx ly lh lc le st_ a = 0 then
  (if ((F.pr ra sl a (st_ - t)) + se) * ((F.pr ra sl a (st_ - t)) + se) < far (F.px x sx (st_ - t)) (F.px y sy (st_ - t)) sx_ sy_ then 8 else if F.trackE i st st_ (F.mix (F.px x sx (st_ - t)) sx_ pl) (F.mix (F.px y sy (st_ - t)) sy_ pl) (F.usp sx sx_ lx (st_ - lt) sp) (F.usp sy sy_ ly (st_ - lt) sp) sh (F.urate sh lh (st_ - lt)) (F.urad pl (F.pr ra sl a (st_ - t)) se) (F.ucode sc c) (IntKind.wrap .i64 (hi + 1)) 0 (F.usl sp (F.ps sl a (st_ - t)) (F.um se le (st_ - lt) a)) st_ sx_ sy_ sh sc se = 0 then 0 else 8) else F.predE i st t x y sx sy h r ra c hi mi sl lt lx ly lh lc le st_ a) else 4) else spot st_ sx_ sy_ sh sc se) else F.trackE i st t x y sx sy h r ra c hi mi sl lt lx ly lh lc le
end F


theorem mix_eq (a b g : Int) : (a * (256 - g) + b * g) / 256 = F.mix a b g := by
  unfold F.mix
  have : a * (256 - g) + b * g = (b - a) * g + a * 256 := by
    rw [Int.mul_sub, Int.sub_mul]
    omega
  rw [this, Int.add_mul_ediv_right _ _ (by omega)]
  omega
theorem z0 (v : Int) : F.z 0 v = v := rfl
theorem predE_zero {i st t x y sx sy h r ra c hi mi sl lt lx ly lh lc le n a : Int} (e : F.predE i st t x y sx sy h r ra c hi mi sl lt lx ly lh lc le n a = 0) (he : F.trackE i st t x y sx sy h r ra c hi mi sl lt lx ly lh lc le = 0) : F.inb n 0 200000 = true ∧ F.inb a 0 20 = true ∧ F.inb (n - t) 0 600 = true ∧ F.trackE i st n (F.px x sx (n - t)) (F.px y sy (n - t)) sx sy (F.ph h r (n - t)) r (F.pr ra sl a (n - t)) c hi mi (F.ps sl a (n - t)) lt lx ly lh lc le = 0 := by
  unfold F.predE at e
  rw [if_pos he] at e
  split at e
  · rename_i h1
    split at e
    · rename_i h2
      split at e
      · rename_i h3
        simp only [Bool.and_eq_true] at h1
        exact ⟨h1.1, h1.2, h2, h3⟩
      · cases e
    · cases e
  · cases e
theorem div_b9 {n d b : Int} (hd : 0 < d) (h : -b ≤ n ∧ n ≤ b) : -b ≤ n / d ∧ n / d ≤ b := by
  obtain ⟨h1, h2⟩ := ediv_bd n d hd
  rcases Int.lt_or_le n 0 with h3 | h3
  · have := h2 h3
    omega
  · have := h1 h3
    omega
theorem upd_need {P3 P4 sx_ sy_ sh se lx ly lh le a pl sp d : Int} (h3 : 0 ≤ P3 ∧ P3 ≤ 4000000) (h4 : 0 ≤ P4 ∧ P4 ≤ 409600)
    (g1 : -1000000 ≤ sx_ ∧ sx_ ≤ 1000000) (g2 : -1000000 ≤ sy_ ∧ sy_ ≤ 1000000) (g3 : 0 ≤ sh ∧ sh ≤ 60000) (g4 : 0 ≤ se ∧ se ≤ 1000000)
    (f1 : -1000000 ≤ lx ∧ lx ≤ 1000000) (f2 : -1000000 ≤ ly ∧ ly ≤ 1000000) (f3 : 0 ≤ lh ∧ lh ≤ 60000) (f4 : 0 ≤ le ∧ le ≤ 1000000)
    (ha : 0 ≤ a ∧ a ≤ 20) (hpl : 0 ≤ pl ∧ pl ≤ 256) (hsp : 0 ≤ sp ∧ sp ≤ 256) (hd : 0 < d ∧ d ≤ 200000) :
    (i64ok (P3 + se) ∧ i64ok ((P3 + se) * (P3 + se)) ∧ F.inb (P3 + se) 0 8000000 = true) ∧
    (i64ok (256 - pl) ∧ i64ok ((256 - pl) * P3) ∧ i64ok (pl * se) ∧ i64ok ((256 - pl) * P3 + pl * se) ∧ i64ok (-((256 - pl) * P3 + pl * se)) ∧ i64ok (-(-((256 - pl) * P3 + pl * se) / 256) + 2)) ∧
    (i64ok (sx_ - lx) ∧ i64ok (16 * (sx_ - lx)) ∧ F.b9 (16 * (sx_ - lx) / d)) ∧ (i64ok (sy_ - ly) ∧ i64ok (16 * (sy_ - ly)) ∧ F.b9 (16 * (sy_ - ly) / d)) ∧
    (i64ok (se + le) ∧ i64ok (16 * (se + le)) ∧ i64ok (-(16 * (se + le))) ∧ i64ok (16 * a) ∧ i64ok (16 * a * d) ∧ i64ok (-(-(16 * (se + le)) / d) + 16 * a * d) ∧ i64ok (-(-(16 * (se + le)) / d) + 16 * a * d + 2)) ∧
    (i64ok (256 - sp) ∧ i64ok ((256 - sp) * P4) ∧ i64ok (sp * (-(-(16 * (se + le)) / d) + 16 * a * d + 2)) ∧ i64ok ((256 - sp) * P4 + sp * (-(-(16 * (se + le)) / d) + 16 * a * d + 2)) ∧
      i64ok (-((256 - sp) * P4 + sp * (-(-(16 * (se + le)) / d) + 16 * a * d + 2))) ∧ i64ok (-(-((256 - sp) * P4 + sp * (-(-(16 * (se + le)) / d) + 16 * a * d + 2)) / 256) + 2)) ∧
    (i64ok (sh - lh) ∧ i64ok (16 * (sh - lh))) := by
  have k1 := sq_bd (x := P3 + se) (a := 5000000) (by omega)
  have k2 := mul_bd (x := 256 - pl) (y := P3) (a := 256) (b := 4000000) (by omega) (by omega)
  have k3 := mul_bd (x := pl) (y := se) (a := 256) (b := 1000000) (by omega) (by omega)
  have k4 := div_b9 (n := 16 * (sx_ - lx)) (d := d) (b := 32000000) hd.1 (by omega)
  have k5 := div_b9 (n := 16 * (sy_ - ly)) (d := d) (b := 32000000) hd.1 (by omega)
  have k6 := div_b9 (n := -(16 * (se + le))) (d := d) (b := 32000000) hd.1 (by omega)
  have k7 := mul_bd (x := 16 * a) (y := d) (a := 320) (b := 200000) (by omega) (by omega)
  have k8 := mul_bd (x := 256 - sp) (y := P4) (a := 256) (b := 409600) (by omega) (by omega)
  have k9 := mul_bd (x := sp) (y := -(-(16 * (se + le)) / d) + 16 * a * d + 2) (a := 256) (b := 100000000) (by omega) (by omega)
  have k10 : F.inb (P3 + se) 0 8000000 = true := inb_true.2 (by omega)
  generalize (P3 + se) * (P3 + se) = q1 at *
  generalize (256 - pl) * P3 = q2 at *
  generalize pl * se = q3 at *
  generalize sp * (-(-(16 * (se + le)) / d) + 16 * a * d + 2) = q9 at *
  generalize 16 * (sx_ - lx) / d = q4 at *
  generalize 16 * (sy_ - ly) / d = q5 at *
  generalize -(16 * (se + le)) / d = q6 at *
  generalize 16 * a * d = q7 at *
  generalize (256 - sp) * P4 = q8 at *
  unfold i64ok F.b9
  refine ⟨⟨?_, ?_, k10⟩, ⟨?_, ?_, ?_, ?_, ?_, ?_⟩, ⟨?_, ?_, ?_⟩, ⟨?_, ?_, ?_⟩, ⟨?_, ?_, ?_, ?_, ?_, ?_, ?_⟩, ⟨?_, ?_, ?_, ?_, ?_, ?_⟩, ⟨?_, ?_⟩⟩ <;> omega

noncomputable def s_mix : Summ cod := fun args H => match H with
  | [] => match rd args with
    | some [[a], [b], [g]] => (.need (F.b9 a ∧ F.b9 b ∧ (0 ≤ g ∧ g ≤ 256)) (.ret (.c (.int .i64 (F.mix a b g)), [])))
    | _ => .fail
  | _ => .fail

theorem mix_tree (a b g : Int) : symF C_moves [] Try.f87.results.toList (List.length ([] : Heap cod)) 400 [.code (codeOf Try.f87)] ⟨argsS Try.f87 [.c (.int .i64 a), .c (.int .i64 b), .c (.int .i64 g)], []⟩ =
.need (i64ok (b - a)) (
.need (i64ok ((b - a) * g)) (
.need (((0 : Int) < 256 ∧ i64ok ((b - a) * g))) (
.need (i64ok (a + (b - a) * g / 256)) (
.ret (.fin (.c (.int .i64 (a + (b - a) * g / 256))) []))))) := by kernel_rfl

theorem mix_sound : Sound Try.prog cod 87 s_mix := sound_flat (cfg := C_moves) L_moves_ok mixed Try.func87 rfl rfl _ 400 fun args H r news hg => by
  unfold s_mix at hg
  split at hg
  · split at hg
    · rename_i a b g hrd
      have hargs := rd_spec hrd
      simp only [List.map, wr1, ints, List.tail] at hargs
      subst hargs
      clear hrd
      rw [mix_tree]
      simp only [T.gives, T.wp, Prod.mk.injEq] at hg
      obtain ⟨⟨h1, h2, h3⟩, rfl, rfl⟩ := hg
      simp only [T.wp, T.wp_cond, Fin.fin.injEq, SV.c.injEq, SV.tup.injEq, SV.agg.injEq, List.cons.injEq, Cell.bool.injEq, Cell.int.injEq, and_true, true_and, decide_eq_true_eq]
      unfold F.b9 at h1 h2
      unfold F.mix
      have k1 := mul_bd (x := b - a) (y := g) (a := 2000000000) (b := 256) (by omega) (by omega)
      generalize (b - a) * g = p at *
      unfold i64ok
      omega
    · exact hg.elim
  · exact hg.elim

noncomputable def L_mix : Sums cod := (87, s_mix) :: L_moves
noncomputable def C_mix : Cfg cod := mkC L_mix

theorem L_mix_ok : Snd Try.prog cod L_mix := .cons mix_sound L_moves_ok

noncomputable def s_mixed : Summ cod := fun args H => match H with
  | [] => match rd args with
    | some [[a], [b], [g]] => (.need (F.b9 a ∧ F.b9 b ∧ (0 ≤ g ∧ g ≤ 256)) (.ret (.c (.int .i64 (F.mix a b g)), [])))
    | _ => .fail
  | _ => .fail

theorem mixed_tree (a b g : Int) : symF C_mix [] Try.f89.results.toList (List.length ([] : Heap cod)) 400 [.code (codeOf Try.f89)] ⟨argsS Try.f89 [.c (.int .i64 a), .c (.int .i64 b), .c (.int .i64 g)], []⟩ =
.need (i64ok (256 - g)) (
.need (i64ok (a * (256 - g))) (
.need (i64ok (b * g)) (
.need (i64ok (a * (256 - g) + b * g)) (
.need (((0 : Int) < 256 ∧ i64ok (a * (256 - g) + b * g))) (
.ret (.fin (.c (.int .i64 ((a * (256 - g) + b * g) / 256))) [])))))) := by kernel_rfl

theorem mixed_sound : Sound Try.prog cod 89 s_mixed := sound_flat (cfg := C_mix) L_mix_ok mixed Try.func89 rfl rfl _ 400 fun args H r news hg => by
  unfold s_mixed at hg
  split at hg
  · split at hg
    · rename_i a b g hrd
      have hargs := rd_spec hrd
      simp only [List.map, wr1, ints, List.tail] at hargs
      subst hargs
      clear hrd
      rw [mixed_tree]
      simp only [T.gives, T.wp, Prod.mk.injEq] at hg
      obtain ⟨⟨h1, h2, h3⟩, rfl, rfl⟩ := hg
      simp only [T.wp, T.wp_cond, Fin.fin.injEq, SV.c.injEq, SV.tup.injEq, SV.agg.injEq, List.cons.injEq, Cell.bool.injEq, Cell.int.injEq, and_true, true_and, decide_eq_true_eq]
      unfold F.b9 at h1 h2
      rw [← mix_eq]
      have k1 := mul_bd (x := a) (y := 256 - g) (a := 1000000000) (b := 256) (by omega) (by omega)
      have k2 := mul_bd (x := b) (y := g) (a := 1000000000) (b := 256) (by omega) (by omega)
      generalize a * (256 - g) = p at *
      generalize b * g = q at *
      unfold i64ok
      omega
    · exact hg.elim
  · exact hg.elim

noncomputable def L_mixed : Sums cod := (89, s_mixed) :: L_mix
noncomputable def C_mixed : Cfg cod := mkC L_mixed

theorem L_mixed_ok : Snd Try.prog cod L_mixed := .cons mixed_sound L_mix_ok

noncomputable def s_begin : Summ cod := fun args H => match H with
  | [] => match rd args with
    | some [[_, lt, lx, ly, lh, lc, le]] => (.ret (.tup [.agg [.int .i64 0, .int .i64 0, .int .i64 (F.z (F.spot lt lx ly lh lc le) lt), .int .i64 (F.z (F.spot lt lx ly lh lc le) lx), .int .i64 (F.z (F.spot lt lx ly lh lc le) ly), .int .i64 0, .int .i64 0, .int .i64 (F.z (F.spot lt lx ly lh lc le) lh), .int .i64 0, .int .i64 (F.z (F.spot lt lx ly lh lc le) le), .int .i64 (F.z (F.spot lt lx ly lh lc le) lc), .int .i64 (F.z (F.spot lt lx ly lh lc le) 1), .int .i64 0, .int .i64 (F.z (F.spot lt lx ly lh lc le) 6400), .int .i64 (F.z (F.spot lt lx ly lh lc le) lt), .int .i64 (F.z (F.spot lt lx ly lh lc le) lx), .int .i64 (F.z (F.spot lt lx ly lh lc le) ly), .int .i64 (F.z (F.spot lt lx ly lh lc le) lh), .int .i64 (F.z (F.spot lt lx ly lh lc le) lc), .int .i64 (F.z (F.spot lt lx ly lh lc le) le)], .c (.int .i64 (F.spot lt lx ly lh lc le))], []))
    | _ => .fail
  | _ => .fail

theorem begin_tree (lt lx ly lh lc le : Int) : symF C_mixed [] Try.f57.results.toList (List.length ([] : Heap cod)) 400 [.code (codeOf Try.f57)] ⟨argsS Try.f57 [.agg [.int .i64 lt, .int .i64 lx, .int .i64 ly, .int .i64 lh, .int .i64 lc, .int .i64 le]], []⟩ =
 cond (!decide (F.spot lt lx ly lh lc le = 0)) (
 .ret (.fin (.tup [.agg [.int .i64 0, .int .i64 0, .int .i64 0, .int .i64 0, .int .i64 0, .int .i64 0, .int .i64 0, .int .i64 0, .int .i64 0, .int .i64 0, .int .i64 0, .int .i64 0, .int .i64 0, .int .i64 0, .int .i64 0, .int .i64 0, .int .i64 0, .int .i64 0, .int .i64 0, .int .i64 0], .c (.int .i64 (F.spot lt lx ly lh lc le))]) [])) (
 .ret (.fin (.tup [.agg [.int .i64 0, .int .i64 0, .int .i64 lt, .int .i64 lx, .int .i64 ly, .int .i64 0, .int .i64 0, .int .i64 lh, .int .i64 0, .int .i64 le, .int .i64 lc, .int .i64 1, .int .i64 0, .int .i64 6400, .int .i64 lt, .int .i64 lx, .int .i64 ly, .int .i64 lh, .int .i64 lc, .int .i64 le], .c (.int .i64 0)]) [])) := by kernel_rfl

theorem begin_sound : Sound Try.prog cod 57 s_begin := sound_flat (cfg := C_mixed) L_mixed_ok mixed Try.func57 rfl rfl _ 400 fun args H r news hg => by
  unfold s_begin at hg
  split at hg
  · split at hg
    · rename_i _ lt lx ly lh lc le hrd
      have hargs := rd_spec hrd
      simp only [List.map, wr1, ints, List.tail] at hargs
      subst hargs
      clear hrd
      rw [begin_tree]
      simp only [T.gives, T.wp, Prod.mk.injEq] at hg
      obtain ⟨rfl, rfl⟩ := hg
      simp only [T.wp, T.wp_cond, Fin.fin.injEq, SV.c.injEq, SV.tup.injEq, SV.agg.injEq, List.cons.injEq, Cell.bool.injEq, Cell.int.injEq, and_true, true_and, decide_eq_true_eq]
      generalize F.spot lt lx ly lh lc le = E
      by_cases he : E = 0 <;> simp [he, F.z]
    · exact hg.elim
  · exact hg.elim

noncomputable def L_begin : Sums cod := (57, s_begin) :: L_mixed
noncomputable def C_begin : Cfg cod := mkC L_begin

theorem L_begin_ok : Snd Try.prog cod L_begin := .cons begin_sound L_mixed_ok

noncomputable def s_update : Summ cod := fun args H => match H with
  | [] => match rd args with
    | some [[_, i, st, t, x, y, sx, sy, h, r, ra, c, hi, mi, sl, lt, lx, ly, lh, lc, le], [_, st_, sx_, sy_, sh, sc, se], [a], [pl], [sp]] => (.ret (.tup [.agg [.int .i64 (F.z (F.updE i st t x y sx sy h r ra c hi mi sl lt lx ly lh lc le st_ sx_ sy_ sh sc se a pl sp) i), .int .i64 (F.z (F.updE i st t x y sx sy h r ra c hi mi sl lt lx ly lh lc le st_ sx_ sy_ sh sc se a pl sp) st), .int .i64 (F.z (F.updE i st t x y sx sy h r ra c hi mi sl lt lx ly lh lc le st_ sx_ sy_ sh sc se a pl sp) st_), .int .i64 (F.z (F.updE i st t x y sx sy h r ra c hi mi sl lt lx ly lh lc le st_ sx_ sy_ sh sc se a pl sp) (F.mix (F.px x sx (st_ - t)) sx_ pl)), .int .i64 (F.z (F.updE i st t x y sx sy h r ra c hi mi sl lt lx ly lh lc le st_ sx_ sy_ sh sc se a pl sp) (F.mix (F.px y sy (st_ - t)) sy_ pl)), .int .i64 (F.z (F.updE i st t x y sx sy h r ra c hi mi sl lt lx ly lh lc le st_ sx_ sy_ sh sc se a pl sp) (F.usp sx sx_ lx (st_ - lt) sp)), .int .i64 (F.z (F.updE i st t x y sx sy h r ra c hi mi sl lt lx ly lh lc le st_ sx_ sy_ sh sc se a pl sp) (F.usp sy sy_ ly (st_ - lt) sp)), .int .i64 (F.z (F.updE i st t x y sx sy h r ra c hi mi sl lt lx ly lh lc le st_ sx_ sy_ sh sc se a pl sp) sh), .int .i64 (F.z (F.updE i st t x y sx sy h r ra c hi mi sl lt lx ly lh lc le st_ sx_ sy_ sh sc se a pl sp) (F.urate sh lh (st_ - lt))), .int .i64 (F.z (F.updE i st t x y sx sy h r ra c hi mi sl lt lx ly lh lc le st_ sx_ sy_ sh sc se a pl sp) (F.urad pl (F.pr ra sl a (st_ - t)) se)), .int .i64 (F.z (F.updE i st t x y sx sy h r ra c hi mi sl lt lx ly lh lc le st_ sx_ sy_ sh sc se a pl sp) (F.ucode sc c)), .int .i64 (F.z (F.updE i st t x y sx sy h r ra c hi mi sl lt lx ly lh lc le st_ sx_ sy_ sh sc se a pl sp) (IntKind.wrap .i64 (hi + 1))), .int .i64 (F.z (F.updE i st t x y sx sy h r ra c hi mi sl lt lx ly lh lc le st_ sx_ sy_ sh sc se a pl sp) 0), .int .i64 (F.z (F.updE i st t x y sx sy h r ra c hi mi sl lt lx ly lh lc le st_ sx_ sy_ sh sc se a pl sp) (F.usl sp (F.ps sl a (st_ - t)) (F.um se le (st_ - lt) a))), .int .i64 (F.z (F.updE i st t x y sx sy h r ra c hi mi sl lt lx ly lh lc le st_ sx_ sy_ sh sc se a pl sp) st_), .int .i64 (F.z (F.updE i st t x y sx sy h r ra c hi mi sl lt lx ly lh lc le st_ sx_ sy_ sh sc se a pl sp) sx_), .int .i64 (F.z (F.updE i st t x y sx sy h r ra c hi mi sl lt lx ly lh lc le st_ sx_ sy_ sh sc se a pl sp) sy_), .int .i64 (F.z (F.updE i st t x y sx sy h r ra c hi mi sl lt lx ly lh lc le st_ sx_ sy_ sh sc se a pl sp) sh), .int .i64 (F.z (F.updE i st t x y sx sy h r ra c hi mi sl lt lx ly lh lc le st_ sx_ sy_ sh sc se a pl sp) sc), .int .i64 (F.z (F.updE i st t x y sx sy h r ra c hi mi sl lt lx ly lh lc le st_ sx_ sy_ sh sc se a pl sp) se)], .c (.int .i64 (F.updE i st t x y sx sy h r ra c hi mi sl lt lx ly lh lc le st_ sx_ sy_ sh sc se a pl sp))], []))
    | _ => .fail
  | _ => .fail

theorem update_tree (i st t x y sx sy h r ra c hi mi sl lt lx ly lh lc le st_ sx_ sy_ sh sc se a pl sp : Int) : symF (mkW L_begin) [] Try.f58.results.toList (List.length ([] : Heap cod)) 400 [.code (codeOf Try.f58)] ⟨argsS Try.f58 [.agg [.int .i64 i, .int .i64 st, .int .i64 t, .int .i64 x, .int .i64 y, .int .i64 sx, .int .i64 sy, .int .i64 h, .int .i64 r, .int .i64 ra, .int .i64 c, .int .i64 hi, .int .i64 mi, .int .i64 sl, .int .i64 lt, .int .i64 lx, .int .i64 ly, .int .i64 lh, .int .i64 lc, .int .i64 le], .agg [.int .i64 st_, .int .i64 sx_, .int .i64 sy_, .int .i64 sh, .int .i64 sc, .int .i64 se], .c (.int .i64 a), .c (.int .i64 pl), .c (.int .i64 sp)], []⟩ =
 cond (!decide (F.trackE i st t x y sx sy h r ra c hi mi sl lt lx ly lh lc le = 0)) (
 .ret (.fin (.tup [.agg [.int .i64 0, .int .i64 0, .int .i64 0, .int .i64 0, .int .i64 0, .int .i64 0, .int .i64 0, .int .i64 0, .int .i64 0, .int .i64 0, .int .i64 0, .int .i64 0, .int .i64 0, .int .i64 0, .int .i64 0, .int .i64 0, .int .i64 0, .int .i64 0, .int .i64 0, .int .i64 0], .c (.int .i64 (F.trackE i st t x y sx sy h r ra c hi mi sl lt lx ly lh lc le))]) [])) (
 cond (!decide (F.spot st_ sx_ sy_ sh sc se = 0)) (
  .ret (.fin (.tup [.agg [.int .i64 0, .int .i64 0, .int .i64 0, .int .i64 0, .int .i64 0, .int .i64 0, .int .i64 0, .int .i64 0, .int .i64 0, .int .i64 0, .int .i64 0, .int .i64 0, .int .i64 0, .int .i64 0, .int .i64 0, .int .i64 0, .int .i64 0, .int .i64 0, .int .i64 0, .int .i64 0], .c (.int .i64 (F.spot st_ sx_ sy_ sh sc se))]) [])) (
  cond (F.out pl 0 256) (
   .ret (.fin (.tup [.agg [.int .i64 0, .int .i64 0, .int .i64 0, .int .i64 0, .int .i64 0, .int .i64 0, .int .i64 0, .int .i64 0, .int .i64 0, .int .i64 0, .int .i64 0, .int .i64 0, .int .i64 0, .int .i64 0, .int .i64 0, .int .i64 0, .int .i64 0, .int .i64 0, .int .i64 0, .int .i64 0], .c (.int .i64 4)]) [])) (
   cond (F.out sp 0 256) (
    .ret (.fin (.tup [.agg [.int .i64 0, .int .i64 0, .int .i64 0, .int .i64 0, .int .i64 0, .int .i64 0, .int .i64 0, .int .i64 0, .int .i64 0, .int .i64 0, .int .i64 0, .int .i64 0, .int .i64 0, .int .i64 0, .int .i64 0, .int .i64 0, .int .i64 0, .int .i64 0, .int .i64 0, .int .i64 0], .c (.int .i64 4)]) [])) (
    cond (decide (IntKind.wrap IntKind.i64 (st_ - lt) ≤ 0)) (
     .ret (.fin (.tup [.agg [.int .i64 0, .int .i64 0, .int .i64 0, .int .i64 0, .int .i64 0, .int .i64 0, .int .i64 0, .int .i64 0, .int .i64 0, .int .i64 0, .int .i64 0, .int .i64 0, .int .i64 0, .int .i64 0, .int .i64 0, .int .i64 0, .int .i64 0, .int .i64 0, .int .i64 0, .int .i64 0], .c (.int .i64 12)]) [])) (
     cond (!decide (F.predE i st t x y sx sy h r ra c hi mi sl lt lx ly lh lc le st_ a = 0)) (
      .ret (.fin (.tup [.agg [.int .i64 0, .int .i64 0, .int .i64 0, .int .i64 0, .int .i64 0, .int .i64 0, .int .i64 0, .int .i64 0, .int .i64 0, .int .i64 0, .int .i64 0, .int .i64 0, .int .i64 0, .int .i64 0, .int .i64 0, .int .i64 0, .int .i64 0, .int .i64 0, .int .i64 0, .int .i64 0], .c (.int .i64 (F.predE i st t x y sx sy h r ra c hi mi sl lt lx ly lh lc le st_ a))]) [])) (
      .need ((F.b9 (F.z (F.predE i st t x y sx sy h r ra c hi mi sl lt lx ly lh lc le st_ a) (F.px x sx (st_ - t))) ∧ (F.b9 (F.z (F.predE i st t x y sx sy h r ra c hi mi sl lt lx ly lh lc le st_ a) (F.px y sy (st_ - t))) ∧ (F.b9 sx_ ∧ F.b9 sy_)))) (
      cond (!(F.inb       (IntKind.wrap IntKind.i64         (F.z (F.predE i st t x y sx sy h r ra c hi mi sl lt lx ly lh lc le st_ a) (F.pr ra sl a (st_ - t)) + se))       0 8000000 &&     decide       (F.far (F.z (F.predE i st t x y sx sy h r ra c hi mi sl lt lx ly lh lc le st_ a) (F.px x sx (st_ - t)))           (F.z (F.predE i st t x y sx sy h r ra c hi mi sl lt lx ly lh lc le st_ a) (F.px y sy (st_ - t))) sx_ sy_ ≤         IntKind.wrap IntKind.i64             (F.z (F.predE i st t x y sx sy h r ra c hi mi sl lt lx ly lh lc le st_ a) (F.pr ra sl a (st_ - t)) + se) *           IntKind.wrap IntKind.i64             (F.z (F.predE i st t x y sx sy h r ra c hi mi sl lt lx ly lh lc le st_ a) (F.pr ra sl a (st_ - t)) + se)))) (
       .ret (.fin (.tup [.agg [.int .i64 0, .int .i64 0, .int .i64 0, .int .i64 0, .int .i64 0, .int .i64 0, .int .i64 0, .int .i64 0, .int .i64 0, .int .i64 0, .int .i64 0, .int .i64 0, .int .i64 0, .int .i64 0, .int .i64 0, .int .i64 0, .int .i64 0, .int .i64 0, .int .i64 0, .int .i64 0], .c (.int .i64 8)]) [])) (
       .need ((F.b9 (F.z (F.predE i st t x y sx sy h r ra c hi mi sl lt lx ly lh lc le st_ a) (F.px x sx (st_ - t))) ∧ (F.b9 sx_ ∧ (0 ≤ pl ∧ pl ≤ 256)))) (
       .need ((F.b9 (F.z (F.predE i st t x y sx sy h r ra c hi mi sl lt lx ly lh lc le st_ a) (F.px y sy (st_ - t))) ∧ (F.b9 sy_ ∧ (0 ≤ pl ∧ pl ≤ 256)))) (
       .need (((0 : Int) < 256 ∧ (i64ok   (IntKind.wrap IntKind.i64     (IntKind.wrap IntKind.i64         (IntKind.wrap IntKind.i64 (256 - pl) *           F.z (F.predE i st t x y sx sy h r ra c hi mi sl lt lx ly lh lc le st_ a) (F.pr ra sl a (st_ - t))) +       IntKind.wrap IntKind.i64 (pl * se))) ∧ i64ok   (-IntKind.wrap IntKind.i64       (IntKind.wrap IntKind.i64           (IntKind.wrap IntKind.i64 (256 - pl) *             F.z (F.predE i st t x y sx sy h r ra c hi mi sl lt lx ly lh lc le st_ a) (F.pr ra sl a (st_ - t))) +         IntKind.wrap IntKind.i64 (pl * se)))))) (
       .need ((0 < IntKind.wrap IntKind.i64 (st_ - lt) ∧ i64ok (IntKind.wrap IntKind.i64 (16 * IntKind.wrap IntKind.i64 (sx_ - lx))))) (
       .need ((0 < IntKind.wrap IntKind.i64 (st_ - lt) ∧ i64ok (IntKind.wrap IntKind.i64 (16 * IntKind.wrap IntKind.i64 (sy_ - ly))))) (
       .need ((F.b9 (F.z (F.predE i st t x y sx sy h r ra c hi mi sl lt lx ly lh lc le st_ a) sx) ∧ (F.b9 (IntKind.wrap IntKind.i64 (16 * IntKind.wrap IntKind.i64 (sx_ - lx)) / IntKind.wrap IntKind.i64 (st_ - lt)) ∧ (0 ≤ sp ∧ sp ≤ 256)))) (
       .need ((F.b9 (F.z (F.predE i st t x y sx sy h r ra c hi mi sl lt lx ly lh lc le st_ a) sy) ∧ (F.b9 (IntKind.wrap IntKind.i64 (16 * IntKind.wrap IntKind.i64 (sy_ - ly)) / IntKind.wrap IntKind.i64 (st_ - lt)) ∧ (0 ≤ sp ∧ sp ≤ 256)))) (
       .need ((0 < IntKind.wrap IntKind.i64 (st_ - lt) ∧ (i64ok (IntKind.wrap IntKind.i64 (16 * IntKind.wrap IntKind.i64 (se + le))) ∧ i64ok (-IntKind.wrap IntKind.i64 (16 * IntKind.wrap IntKind.i64 (se + le)))))) (
       .need (((0 : Int) < 256 ∧ (i64ok   (IntKind.wrap IntKind.i64     (IntKind.wrap IntKind.i64         (IntKind.wrap IntKind.i64 (256 - sp) *           F.z (F.predE i st t x y sx sy h r ra c hi mi sl lt lx ly lh lc le st_ a) (F.ps sl a (st_ - t))) +       IntKind.wrap IntKind.i64         (sp *           IntKind.wrap IntKind.i64             (IntKind.wrap IntKind.i64                 (-(-IntKind.wrap IntKind.i64 (16 * IntKind.wrap IntKind.i64 (se + le)) /                       IntKind.wrap IntKind.i64 (st_ - lt)) +                   IntKind.wrap IntKind.i64 (IntKind.wrap IntKind.i64 (16 * a) * IntKind.wrap IntKind.i64 (st_ - lt))) +               2)))) ∧ i64ok   (-IntKind.wrap IntKind.i64       (IntKind.wrap IntKind.i64           (IntKind.wrap IntKind.i64 (256 - sp) *             F.z (F.predE i st t x y sx sy h r ra c hi mi sl lt lx ly lh lc le st_ a) (F.ps sl a (st_ - t))) +         IntKind.wrap IntKind.i64           (sp *             IntKind.wrap IntKind.i64               (IntKind.wrap IntKind.i64                   (-(-IntKind.wrap IntKind.i64 (16 * IntKind.wrap IntKind.i64 (se + le)) /                         IntKind.wrap IntKind.i64 (st_ - lt)) +                     IntKind.wrap IntKind.i64                       (IntKind.wrap IntKind.i64 (16 * a) * IntKind.wrap IntKind.i64 (st_ - lt))) +                 2))))))) (
       .need ((0 < IntKind.wrap IntKind.i64 (st_ - lt) ∧ i64ok (IntKind.wrap IntKind.i64 (16 * IntKind.wrap IntKind.i64 (sh - lh))))) (
       .need ((-3200 : Int) ≤ 3200) (
       cond (!decide (sc = -1)) (
        cond (!decide     (F.trackE (F.z (F.predE i st t x y sx sy h r ra c hi mi sl lt lx ly lh lc le st_ a) i)         (F.z (F.predE i st t x y sx sy h r ra c hi mi sl lt lx ly lh lc le st_ a) st)         (F.z (F.predE i st t x y sx sy h r ra c hi mi sl lt lx ly lh lc le st_ a) st_)         (F.mix (F.z (F.predE i st t x y sx sy h r ra c hi mi sl lt lx ly lh lc le st_ a) (F.px x sx (st_ - t))) sx_ pl)         (F.mix (F.z (F.predE i st t x y sx sy h r ra c hi mi sl lt lx ly lh lc le st_ a) (F.px y sy (st_ - t))) sy_ pl)         (F.mix (F.z (F.predE i st t x y sx sy h r ra c hi mi sl lt lx ly lh lc le st_ a) sx)           (IntKind.wrap IntKind.i64 (16 * IntKind.wrap IntKind.i64 (sx_ - lx)) / IntKind.wrap IntKind.i64 (st_ - lt))           sp)         (F.mix (F.z (F.predE i st t x y sx sy h r ra c hi mi sl lt lx ly lh lc le st_ a) sy)           (IntKind.wrap IntKind.i64 (16 * IntKind.wrap IntKind.i64 (sy_ - ly)) / IntKind.wrap IntKind.i64 (st_ - lt))           sp)         sh         (F.clamp           (IntKind.wrap IntKind.i64 (16 * IntKind.wrap IntKind.i64 (sh - lh)) / IntKind.wrap IntKind.i64 (st_ - lt))           (-3200) 3200)         (IntKind.wrap IntKind.i64           (-(-IntKind.wrap IntKind.i64                     (IntKind.wrap IntKind.i64                         (IntKind.wrap IntKind.i64 (256 - pl) *                           F.z (F.predE i st t x y sx sy h r ra c hi mi sl lt lx ly lh lc le st_ a)                             (F.pr ra sl a (st_ - t))) +                       IntKind.wrap IntKind.i64 (pl * se)) /                 256) +             2))         sc (IntKind.wrap IntKind.i64 (F.z (F.predE i st t x y sx sy h r ra c hi mi sl lt lx ly lh lc le st_ a) hi + 1))         0         (IntKind.wrap IntKind.i64           (-(-IntKind.wrap IntKind.i64                     (IntKind.wrap IntKind.i64                         (IntKind.wrap IntKind.i64 (256 - sp) *                           F.z (F.predE i st t x y sx sy h r ra c hi mi sl lt lx ly lh lc le st_ a)                             (F.ps sl a (st_ - t))) +                       IntKind.wrap IntKind.i64                         (sp *                           IntKind.wrap IntKind.i64                             (IntKind.wrap IntKind.i64                                 (-(-IntKind.wrap IntKind.i64 (16 * IntKind.wrap IntKind.i64 (se + le)) /                                       IntKind.wrap IntKind.i64 (st_ - lt)) +                                   IntKind.wrap IntKind.i64                                     (IntKind.wrap IntKind.i64 (16 * a) * IntKind.wrap IntKind.i64 (st_ - lt))) +                               2))) /                 256) +             2))         st_ sx_ sy_ sh sc se =       0)) (
         .ret (.fin (.tup [.agg [.int .i64 0, .int .i64 0, .int .i64 0, .int .i64 0, .int .i64 0, .int .i64 0, .int .i64 0, .int .i64 0, .int .i64 0, .int .i64 0, .int .i64 0, .int .i64 0, .int .i64 0, .int .i64 0, .int .i64 0, .int .i64 0, .int .i64 0, .int .i64 0, .int .i64 0, .int .i64 0], .c (.int .i64 8)]) [])) (
         .ret (.fin (.tup [.agg [.int .i64 (F.z (F.predE i st t x y sx sy h r ra c hi mi sl lt lx ly lh lc le st_ a) i), .int .i64 (F.z (F.predE i st t x y sx sy h r ra c hi mi sl lt lx ly lh lc le st_ a) st), .int .i64 (F.z (F.predE i st t x y sx sy h r ra c hi mi sl lt lx ly lh lc le st_ a) st_), .int .i64 (F.mix (F.z (F.predE i st t x y sx sy h r ra c hi mi sl lt lx ly lh lc le st_ a) (F.px x sx (st_ - t))) sx_ pl), .int .i64 (F.mix (F.z (F.predE i st t x y sx sy h r ra c hi mi sl lt lx ly lh lc le st_ a) (F.px y sy (st_ - t))) sy_ pl), .int .i64 (F.mix (F.z (F.predE i st t x y sx sy h r ra c hi mi sl lt lx ly lh lc le st_ a) sx)   (IntKind.wrap IntKind.i64 (16 * IntKind.wrap IntKind.i64 (sx_ - lx)) / IntKind.wrap IntKind.i64 (st_ - lt)) sp), .int .i64 (F.mix (F.z (F.predE i st t x y sx sy h r ra c hi mi sl lt lx ly lh lc le st_ a) sy)   (IntKind.wrap IntKind.i64 (16 * IntKind.wrap IntKind.i64 (sy_ - ly)) / IntKind.wrap IntKind.i64 (st_ - lt)) sp), .int .i64 sh, .int .i64 (F.clamp (IntKind.wrap IntKind.i64 (16 * IntKind.wrap IntKind.i64 (sh - lh)) / IntKind.wrap IntKind.i64 (st_ - lt))   (-3200) 3200), .int .i64 (IntKind.wrap IntKind.i64   (-(-IntKind.wrap IntKind.i64             (IntKind.wrap IntKind.i64                 (IntKind.wrap IntKind.i64 (256 - pl) *                   F.z (F.predE i st t x y sx sy h r ra c hi mi sl lt lx ly lh lc le st_ a) (F.pr ra sl a (st_ - t))) +               IntKind.wrap IntKind.i64 (pl * se)) /         256) +     2)), .int .i64 sc, .int .i64 (IntKind.wrap IntKind.i64 (F.z (F.predE i st t x y sx sy h r ra c hi mi sl lt lx ly lh lc le st_ a) hi + 1)), .int .i64 0, .int .i64 (IntKind.wrap IntKind.i64   (-(-IntKind.wrap IntKind.i64             (IntKind.wrap IntKind.i64                 (IntKind.wrap IntKind.i64 (256 - sp) *                   F.z (F.predE i st t x y sx sy h r ra c hi mi sl lt lx ly lh lc le st_ a) (F.ps sl a (st_ - t))) +               IntKind.wrap IntKind.i64                 (sp *                   IntKind.wrap IntKind.i64                     (IntKind.wrap IntKind.i64                         (-(-IntKind.wrap IntKind.i64 (16 * IntKind.wrap IntKind.i64 (se + le)) /                               IntKind.wrap IntKind.i64 (st_ - lt)) +                           IntKind.wrap IntKind.i64                             (IntKind.wrap IntKind.i64 (16 * a) * IntKind.wrap IntKind.i64 (st_ - lt))) +                       2))) /         256) +     2)), .int .i64 st_, .int .i64 sx_, .int .i64 sy_, .int .i64 sh, .int .i64 sc, .int .i64 se], .c (.int .i64 0)]) []))) (
        cond (!decide     (F.trackE (F.z (F.predE i st t x y sx sy h r ra c hi mi sl lt lx ly lh lc le st_ a) i)         (F.z (F.predE i st t x y sx sy h r ra c hi mi sl lt lx ly lh lc le st_ a) st)         (F.z (F.predE i st t x y sx sy h r ra c hi mi sl lt lx ly lh lc le st_ a) st_)         (F.mix (F.z (F.predE i st t x y sx sy h r ra c hi mi sl lt lx ly lh lc le st_ a) (F.px x sx (st_ - t))) sx_ pl)         (F.mix (F.z (F.predE i st t x y sx sy h r ra c hi mi sl lt lx ly lh lc le st_ a) (F.px y sy (st_ - t))) sy_ pl)         (F.mix (F.z (F.predE i st t x y sx sy h r ra c hi mi sl lt lx ly lh lc le st_ a) sx)           (IntKind.wrap IntKind.i64 (16 * IntKind.wrap IntKind.i64 (sx_ - lx)) / IntKind.wrap IntKind.i64 (st_ - lt))           sp)         (F.mix (F.z (F.predE i st t x y sx sy h r ra c hi mi sl lt lx ly lh lc le st_ a) sy)           (IntKind.wrap IntKind.i64 (16 * IntKind.wrap IntKind.i64 (sy_ - ly)) / IntKind.wrap IntKind.i64 (st_ - lt))           sp)         sh         (F.clamp           (IntKind.wrap IntKind.i64 (16 * IntKind.wrap IntKind.i64 (sh - lh)) / IntKind.wrap IntKind.i64 (st_ - lt))           (-3200) 3200)         (IntKind.wrap IntKind.i64           (-(-IntKind.wrap IntKind.i64                     (IntKind.wrap IntKind.i64                         (IntKind.wrap IntKind.i64 (256 - pl) *                           F.z (F.predE i st t x y sx sy h r ra c hi mi sl lt lx ly lh lc le st_ a)                             (F.pr ra sl a (st_ - t))) +                       IntKind.wrap IntKind.i64 (pl * se)) /                 256) +             2))         (F.z (F.predE i st t x y sx sy h r ra c hi mi sl lt lx ly lh lc le st_ a) c)         (IntKind.wrap IntKind.i64 (F.z (F.predE i st t x y sx sy h r ra c hi mi sl lt lx ly lh lc le st_ a) hi + 1)) 0         (IntKind.wrap IntKind.i64           (-(-IntKind.wrap IntKind.i64                     (IntKind.wrap IntKind.i64                         (IntKind.wrap IntKind.i64 (256 - sp) *                           F.z (F.predE i st t x y sx sy h r ra c hi mi sl lt lx ly lh lc le st_ a)                             (F.ps sl a (st_ - t))) +                       IntKind.wrap IntKind.i64                         (sp *                           IntKind.wrap IntKind.i64                             (IntKind.wrap IntKind.i64                                 (-(-IntKind.wrap IntKind.i64 (16 * IntKind.wrap IntKind.i64 (se + le)) /                                       IntKind.wrap IntKind.i64 (st_ - lt)) +                                   IntKind.wrap IntKind.i64                                     (IntKind.wrap IntKind.i64 (16 * a) * IntKind.wrap IntKind.i64 (st_ - lt))) +                               2))) /                 256) +             2))         st_ sx_ sy_ sh sc se =       0)) (
         .ret (.fin (.tup [.agg [.int .i64 0, .int .i64 0, .int .i64 0, .int .i64 0, .int .i64 0, .int .i64 0, .int .i64 0, .int .i64 0, .int .i64 0, .int .i64 0, .int .i64 0, .int .i64 0, .int .i64 0, .int .i64 0, .int .i64 0, .int .i64 0, .int .i64 0, .int .i64 0, .int .i64 0, .int .i64 0], .c (.int .i64 8)]) [])) (
         .ret (.fin (.tup [.agg [.int .i64 (F.z (F.predE i st t x y sx sy h r ra c hi mi sl lt lx ly lh lc le st_ a) i), .int .i64 (F.z (F.predE i st t x y sx sy h r ra c hi mi sl lt lx ly lh lc le st_ a) st), .int .i64 (F.z (F.predE i st t x y sx sy h r ra c hi mi sl lt lx ly lh lc le st_ a) st_), .int .i64 (F.mix (F.z (F.predE i st t x y sx sy h r ra c hi mi sl lt lx ly lh lc le st_ a) (F.px x sx (st_ - t))) sx_ pl), .int .i64 (F.mix (F.z (F.predE i st t x y sx sy h r ra c hi mi sl lt lx ly lh lc le st_ a) (F.px y sy (st_ - t))) sy_ pl), .int .i64 (F.mix (F.z (F.predE i st t x y sx sy h r ra c hi mi sl lt lx ly lh lc le st_ a) sx)   (IntKind.wrap IntKind.i64 (16 * IntKind.wrap IntKind.i64 (sx_ - lx)) / IntKind.wrap IntKind.i64 (st_ - lt)) sp), .int .i64 (F.mix (F.z (F.predE i st t x y sx sy h r ra c hi mi sl lt lx ly lh lc le st_ a) sy)   (IntKind.wrap IntKind.i64 (16 * IntKind.wrap IntKind.i64 (sy_ - ly)) / IntKind.wrap IntKind.i64 (st_ - lt)) sp), .int .i64 sh, .int .i64 (F.clamp (IntKind.wrap IntKind.i64 (16 * IntKind.wrap IntKind.i64 (sh - lh)) / IntKind.wrap IntKind.i64 (st_ - lt))   (-3200) 3200), .int .i64 (IntKind.wrap IntKind.i64   (-(-IntKind.wrap IntKind.i64             (IntKind.wrap IntKind.i64                 (IntKind.wrap IntKind.i64 (256 - pl) *                   F.z (F.predE i st t x y sx sy h r ra c hi mi sl lt lx ly lh lc le st_ a) (F.pr ra sl a (st_ - t))) +               IntKind.wrap IntKind.i64 (pl * se)) /         256) +     2)), .int .i64 (F.z (F.predE i st t x y sx sy h r ra c hi mi sl lt lx ly lh lc le st_ a) c), .int .i64 (IntKind.wrap IntKind.i64 (F.z (F.predE i st t x y sx sy h r ra c hi mi sl lt lx ly lh lc le st_ a) hi + 1)), .int .i64 0, .int .i64 (IntKind.wrap IntKind.i64   (-(-IntKind.wrap IntKind.i64             (IntKind.wrap IntKind.i64                 (IntKind.wrap IntKind.i64 (256 - sp) *                   F.z (F.predE i st t x y sx sy h r ra c hi mi sl lt lx ly lh lc le st_ a) (F.ps sl a (st_ - t))) +               IntKind.wrap IntKind.i64                 (sp *                   IntKind.wrap IntKind.i64                     (IntKind.wrap IntKind.i64                         (-(-IntKind.wrap IntKind.i64 (16 * IntKind.wrap IntKind.i64 (se + le)) /                               IntKind.wrap IntKind.i64 (st_ - lt)) +                           IntKind.wrap IntKind.i64                             (IntKind.wrap IntKind.i64 (16 * a) * IntKind.wrap IntKind.i64 (st_ - lt))) +                       2))) /         256) +     2)), .int .i64 st_, .int .i64 sx_, .int .i64 sy_, .int .i64 sh, .int .i64 sc, .int .i64 se], .c (.int .i64 0)]) [])))))))))))))))))))))) := by kernel_rfl

theorem update_sound : Sound Try.prog cod 58 s_update := sound_flat (cfg := (mkW L_begin)) L_begin_ok mixed Try.func58 rfl rfl _ 400 fun args H r news hg => by
  unfold s_update at hg
  split at hg
  · split at hg
    · rename_i _ i st t x y sx sy h r ra c hi mi sl lt lx ly lh lc le _ st_ sx_ sy_ sh sc se a pl sp hrd
      have hargs := rd_spec hrd
      simp only [List.map, wr1, ints, List.tail] at hargs
      subst hargs
      clear hrd
      rw [update_tree]
      simp only [T.gives, T.wp, Prod.mk.injEq] at hg
      obtain ⟨rfl, rfl⟩ := hg
      simp only [T.wp, T.wp_cond, Fin.fin.injEq, SV.c.injEq, SV.tup.injEq, SV.agg.injEq, List.cons.injEq, Cell.bool.injEq, Cell.int.injEq, and_true, true_and, decide_eq_true_eq]
      have hb := trackE_zero (i := i) (st := st) (t := t) (x := x) (y := y) (sx := sx) (sy := sy) (h := h) (r := r) (ra := ra) (c := c) (hi := hi) (mi := mi) (sl := sl) (lt := lt) (lx := lx) (ly := ly) (lh := lh) (lc := lc) (le := le)
      have hU : F.updE i st t x y sx sy h r ra c hi mi sl lt lx ly lh lc le st_ sx_ sy_ sh sc se a pl sp = F.updE i st t x y sx sy h r ra c hi mi sl lt lx ly lh lc le st_ sx_ sy_ sh sc se a pl sp := rfl
      conv at hU => rhs; unfold F.updE
      generalize F.updE i st t x y sx sy h r ra c hi mi sl lt lx ly lh lc le st_ sx_ sy_ sh sc se a pl sp = W at hU ⊢
      by_cases he : F.trackE i st t x y sx sy h r ra c hi mi sl lt lx ly lh lc le = 0
      · obtain ⟨k1, k2, k3, k4, k5, k6, k7, k8, k9, k10, k11, k12, k13, k14, k15, k16⟩ := hb he
        simp only [he] at hU ⊢
        by_cases hs : F.spot st_ sx_ sy_ sh sc se = 0
        · have hs' := spot_zero hs
          have hl' := spot_zero k15
          have hw0 : IntKind.wrap .i64 (st_ - lt) = st_ - lt := wrap_ok (by unfold i64ok; omega)
          simp only [hs, hw0, out_inb] at hU ⊢
          by_cases h1 : F.inb pl 0 256 = true
          · simp only [h1] at hU ⊢
            by_cases h2 : F.inb sp 0 256 = true
            · simp only [h2] at hU ⊢
              by_cases h3 : st_ - lt ≤ 0
              · simp [h3] at hU
                simp [h3, F.z, hU]
              · by_cases hp : F.predE i st t x y sx sy h r ra c hi mi sl lt lx ly lh lc le st_ a = 0
                · obtain ⟨p1, p2, p3, p4⟩ := predE_zero hp he
                  obtain ⟨m1, m2, m3, m4, m5, m6, m7, m8, m9, m10, -⟩ := trackE_zero p4
                  simp only [hp, z0, h3] at hU ⊢
                  unfold F.usp F.urate F.urad F.usl F.um F.ucode at hU
                  unfold F.usp F.urate F.urad F.usl F.um F.ucode
                  generalize (F.px x sx (st_ - t)) = P1 at *
                  generalize (F.px y sy (st_ - t)) = P2 at *
                  generalize (F.pr ra sl a (st_ - t)) = P3 at *
                  generalize (F.ps sl a (st_ - t)) = P4 at *
                  obtain ⟨⟨w1, w2, w3⟩, ⟨w4, w5, w6, w7, w8, w9⟩, ⟨w10, w11, w12⟩, ⟨w13, w14, w15⟩, ⟨w16, w17, w18, w19, w20, w21, w22⟩, ⟨w23, w24, w25, w26, w27, w28⟩, ⟨w29, w30⟩⟩ :=
                    upd_need (d := st_ - lt) m5 m10 hs'.2.1 hs'.2.2.1 hs'.2.2.2.1 hs'.2.2.2.2.2 hl'.2.1 hl'.2.2.1 hl'.2.2.2.1 hl'.2.2.2.2.2 (inb_true.1 p2) (inb_true.1 h1) (inb_true.1 h2) (by omega)
                  have b1 : F.b9 P1 ∧ F.b9 P2 ∧ F.b9 sx_ ∧ F.b9 sy_ ∧ F.b9 sx ∧ F.b9 sy := by unfold F.b9; omega
                  obtain ⟨b1, b2, b3, b4, b5, b6⟩ := b1
                  have h1' := inb_true.1 h1
                  have h2' := inb_true.1 h2
                  have hd0 : 0 < st_ - lt := by omega
                  simp only [wrap_ok w1, wrap_ok w2, wrap_ok w4, wrap_ok w5, wrap_ok w6, wrap_ok w7, wrap_ok w9, wrap_ok w10, wrap_ok w11, wrap_ok w13, wrap_ok w14, wrap_ok w16, wrap_ok w17, wrap_ok w19, wrap_ok w20, wrap_ok w21, wrap_ok w22, wrap_ok w23, wrap_ok w24, wrap_ok w25, wrap_ok w26, wrap_ok w28, wrap_ok w29, wrap_ok w30,
                    b1, b2, b3, b4, b5, b6, w3, w7, w8, w11, w12, w14, w15, w17, w18, w26, w27, w30, hd0, h1', h2', and_self, true_and, and_true]
                  by_cases hf : (P3 + se) * (P3 + se) < F.far P1 P2 sx_ sy_
                  · have hf' : ¬ F.far P1 P2 sx_ sy_ ≤ (P3 + se) * (P3 + se) := by omega
                    simp [hf] at hU
                    simp [hf, hf', hU, F.z]
                  · have hf' : F.far P1 P2 sx_ sy_ ≤ (P3 + se) * (P3 + se) := by omega
                    by_cases hsc : sc = -1
                    · subst hsc
                      simp only [if_true, hf, if_false, Bool.and_self] at hU
                      simp only [if_true, hf, hf']
                      generalize F.trackE i st st_ (F.mix P1 sx_ pl) (F.mix P2 sy_ pl) (F.mix sx (16 * (sx_ - lx) / (st_ - lt)) sp) (F.mix sy (16 * (sy_ - ly) / (st_ - lt)) sp) sh (F.clamp (16 * (sh - lh) / (st_ - lt)) (-3200) 3200) (-(-((256 - pl) * P3 + pl * se) / 256) + 2) c (IntKind.wrap .i64 (hi + 1)) 0 (-(-((256 - sp) * P4 + sp * (-(-(16 * (se + le)) / (st_ - lt)) + 16 * a * (st_ - lt) + 2)) / 256) + 2) st_ sx_ sy_ sh (-1) se = U at hU ⊢
                      by_cases hu : U = 0
                      · simp [hu] at hU
                        simp [hu, hU, F.z]
                      · simp [hu] at hU
                        simp [hu, hU, F.z]
                    · simp only [if_true, hf, if_false, Bool.and_self, hsc] at hU
                      simp only [if_true, hf, hf', hsc, if_false]
                      generalize F.trackE i st st_ (F.mix P1 sx_ pl) (F.mix P2 sy_ pl) (F.mix sx (16 * (sx_ - lx) / (st_ - lt)) sp) (F.mix sy (16 * (sy_ - ly) / (st_ - lt)) sp) sh (F.clamp (16 * (sh - lh) / (st_ - lt)) (-3200) 3200) (-(-((256 - pl) * P3 + pl * se) / 256) + 2) sc (IntKind.wrap .i64 (hi + 1)) 0 (-(-((256 - sp) * P4 + sp * (-(-(16 * (se + le)) / (st_ - lt)) + 16 * a * (st_ - lt) + 2)) / 256) + 2) st_ sx_ sy_ sh sc se = U at hU ⊢
                      by_cases hu : U = 0
                      · simp [hu] at hU
                        simp [hu, hU, F.z]
                      · simp [hu] at hU
                        simp [hu, hU, F.z]
                · simp [h3, hp] at hU
                  simp [h3, hp, hU, F.z]
            · simp [h2] at hU
              simp [h2, hU, F.z]
          · simp [h1] at hU
            simp [h1, hU, F.z]
        · simp [hs] at hU
          simp [hs, hU, F.z]
      · simp [he] at hU
        simp [he, hU, F.z]
    · exact hg.elim
  · exact hg.elim

noncomputable def L_update : Sums cod := (58, s_update) :: L_begin
noncomputable def C_update : Cfg cod := mkC L_update

theorem L_update_ok : Snd Try.prog cod L_update := .cons update_sound L_begin_ok

noncomputable def s_updated : Summ cod := fun args H => match H with
  | [] => match rd args with
    | some [[_, i, st, t, x, y, sx, sy, h, r, ra, c, hi, mi, sl, lt, lx, ly, lh, lc, le], [_, st_, sx_, sy_, sh, sc, se], [a], [pl], [sp]] => (.ret (.tup [.agg [.int .i64 (F.z (F.updE i st t x y sx sy h r ra c hi mi sl lt lx ly lh lc le st_ sx_ sy_ sh sc se a pl sp) i), .int .i64 (F.z (F.updE i st t x y sx sy h r ra c hi mi sl lt lx ly lh lc le st_ sx_ sy_ sh sc se a pl sp) st), .int .i64 (F.z (F.updE i st t x y sx sy h r ra c hi mi sl lt lx ly lh lc le st_ sx_ sy_ sh sc se a pl sp) st_), .int .i64 (F.z (F.updE i st t x y sx sy h r ra c hi mi sl lt lx ly lh lc le st_ sx_ sy_ sh sc se a pl sp) (F.mix (F.px x sx (st_ - t)) sx_ pl)), .int .i64 (F.z (F.updE i st t x y sx sy h r ra c hi mi sl lt lx ly lh lc le st_ sx_ sy_ sh sc se a pl sp) (F.mix (F.px y sy (st_ - t)) sy_ pl)), .int .i64 (F.z (F.updE i st t x y sx sy h r ra c hi mi sl lt lx ly lh lc le st_ sx_ sy_ sh sc se a pl sp) (F.usp sx sx_ lx (st_ - lt) sp)), .int .i64 (F.z (F.updE i st t x y sx sy h r ra c hi mi sl lt lx ly lh lc le st_ sx_ sy_ sh sc se a pl sp) (F.usp sy sy_ ly (st_ - lt) sp)), .int .i64 (F.z (F.updE i st t x y sx sy h r ra c hi mi sl lt lx ly lh lc le st_ sx_ sy_ sh sc se a pl sp) sh), .int .i64 (F.z (F.updE i st t x y sx sy h r ra c hi mi sl lt lx ly lh lc le st_ sx_ sy_ sh sc se a pl sp) (F.urate sh lh (st_ - lt))), .int .i64 (F.z (F.updE i st t x y sx sy h r ra c hi mi sl lt lx ly lh lc le st_ sx_ sy_ sh sc se a pl sp) (F.urad pl (F.pr ra sl a (st_ - t)) se)), .int .i64 (F.z (F.updE i st t x y sx sy h r ra c hi mi sl lt lx ly lh lc le st_ sx_ sy_ sh sc se a pl sp) (F.ucode sc c)), .int .i64 (F.z (F.updE i st t x y sx sy h r ra c hi mi sl lt lx ly lh lc le st_ sx_ sy_ sh sc se a pl sp) (IntKind.wrap .i64 (hi + 1))), .int .i64 (F.z (F.updE i st t x y sx sy h r ra c hi mi sl lt lx ly lh lc le st_ sx_ sy_ sh sc se a pl sp) 0), .int .i64 (F.z (F.updE i st t x y sx sy h r ra c hi mi sl lt lx ly lh lc le st_ sx_ sy_ sh sc se a pl sp) (F.usl sp (F.ps sl a (st_ - t)) (F.um se le (st_ - lt) a))), .int .i64 (F.z (F.updE i st t x y sx sy h r ra c hi mi sl lt lx ly lh lc le st_ sx_ sy_ sh sc se a pl sp) st_), .int .i64 (F.z (F.updE i st t x y sx sy h r ra c hi mi sl lt lx ly lh lc le st_ sx_ sy_ sh sc se a pl sp) sx_), .int .i64 (F.z (F.updE i st t x y sx sy h r ra c hi mi sl lt lx ly lh lc le st_ sx_ sy_ sh sc se a pl sp) sy_), .int .i64 (F.z (F.updE i st t x y sx sy h r ra c hi mi sl lt lx ly lh lc le st_ sx_ sy_ sh sc se a pl sp) sh), .int .i64 (F.z (F.updE i st t x y sx sy h r ra c hi mi sl lt lx ly lh lc le st_ sx_ sy_ sh sc se a pl sp) sc), .int .i64 (F.z (F.updE i st t x y sx sy h r ra c hi mi sl lt lx ly lh lc le st_ sx_ sy_ sh sc se a pl sp) se)], .c (.int .i64 (F.updE i st t x y sx sy h r ra c hi mi sl lt lx ly lh lc le st_ sx_ sy_ sh sc se a pl sp))], []))
    | _ => .fail
  | _ => .fail

theorem updated_tree (i st t x y sx sy h r ra c hi mi sl lt lx ly lh lc le st_ sx_ sy_ sh sc se a pl sp : Int) : symF (mkW L_update) [] Try.f59.results.toList (List.length ([] : Heap cod)) 400 [.code (codeOf Try.f59)] ⟨argsS Try.f59 [.agg [.int .i64 i, .int .i64 st, .int .i64 t, .int .i64 x, .int .i64 y, .int .i64 sx, .int .i64 sy, .int .i64 h, .int .i64 r, .int .i64 ra, .int .i64 c, .int .i64 hi, .int .i64 mi, .int .i64 sl, .int .i64 lt, .int .i64 lx, .int .i64 ly, .int .i64 lh, .int .i64 lc, .int .i64 le], .agg [.int .i64 st_, .int .i64 sx_, .int .i64 sy_, .int .i64 sh, .int .i64 sc, .int .i64 se], .c (.int .i64 a), .c (.int .i64 pl), .c (.int .i64 sp)], []⟩ =
 cond (!decide (F.trackE i st t x y sx sy h r ra c hi mi sl lt lx ly lh lc le = 0)) (
 .ret (.fin (.tup [.agg [.int .i64 0, .int .i64 0, .int .i64 0, .int .i64 0, .int .i64 0, .int .i64 0, .int .i64 0, .int .i64 0, .int .i64 0, .int .i64 0, .int .i64 0, .int .i64 0, .int .i64 0, .int .i64 0, .int .i64 0, .int .i64 0, .int .i64 0, .int .i64 0, .int .i64 0, .int .i64 0], .c (.int .i64 (F.trackE i st t x y sx sy h r ra c hi mi sl lt lx ly lh lc le))]) [])) (
 cond (!decide (F.spot st_ sx_ sy_ sh sc se = 0)) (
  .ret (.fin (.tup [.agg [.int .i64 0, .int .i64 0, .int .i64 0, .int .i64 0, .int .i64 0, .int .i64 0, .int .i64 0, .int .i64 0, .int .i64 0, .int .i64 0, .int .i64 0, .int .i64 0, .int .i64 0, .int .i64 0, .int .i64 0, .int .i64 0, .int .i64 0, .int .i64 0, .int .i64 0, .int .i64 0], .c (.int .i64 (F.spot st_ sx_ sy_ sh sc se))]) [])) (
  cond (!F.inb pl 0 256) (
   .ret (.fin (.tup [.agg [.int .i64 0, .int .i64 0, .int .i64 0, .int .i64 0, .int .i64 0, .int .i64 0, .int .i64 0, .int .i64 0, .int .i64 0, .int .i64 0, .int .i64 0, .int .i64 0, .int .i64 0, .int .i64 0, .int .i64 0, .int .i64 0, .int .i64 0, .int .i64 0, .int .i64 0, .int .i64 0], .c (.int .i64 4)]) [])) (
   cond (!F.inb sp 0 256) (
    .ret (.fin (.tup [.agg [.int .i64 0, .int .i64 0, .int .i64 0, .int .i64 0, .int .i64 0, .int .i64 0, .int .i64 0, .int .i64 0, .int .i64 0, .int .i64 0, .int .i64 0, .int .i64 0, .int .i64 0, .int .i64 0, .int .i64 0, .int .i64 0, .int .i64 0, .int .i64 0, .int .i64 0, .int .i64 0], .c (.int .i64 4)]) [])) (
    cond (decide (IntKind.wrap IntKind.i64 (st_ - lt) ≤ 0)) (
     .ret (.fin (.tup [.agg [.int .i64 0, .int .i64 0, .int .i64 0, .int .i64 0, .int .i64 0, .int .i64 0, .int .i64 0, .int .i64 0, .int .i64 0, .int .i64 0, .int .i64 0, .int .i64 0, .int .i64 0, .int .i64 0, .int .i64 0, .int .i64 0, .int .i64 0, .int .i64 0, .int .i64 0, .int .i64 0], .c (.int .i64 12)]) [])) (
     cond (!decide (F.predE i st t x y sx sy h r ra c hi mi sl lt lx ly lh lc le st_ a = 0)) (
      .ret (.fin (.tup [.agg [.int .i64 0, .int .i64 0, .int .i64 0, .int .i64 0, .int .i64 0, .int .i64 0, .int .i64 0, .int .i64 0, .int .i64 0, .int .i64 0, .int .i64 0, .int .i64 0, .int .i64 0, .int .i64 0, .int .i64 0, .int .i64 0, .int .i64 0, .int .i64 0, .int .i64 0, .int .i64 0], .c (.int .i64 (F.predE i st t x y sx sy h r ra c hi mi sl lt lx ly lh lc le st_ a))]) [])) (
      .need ((F.b9 (F.z (F.predE i st t x y sx sy h r ra c hi mi sl lt lx ly lh lc le st_ a) (F.px x sx (st_ - t))) ∧ (F.b9 (F.z (F.predE i st t x y sx sy h r ra c hi mi sl lt lx ly lh lc le st_ a) (F.px y sy (st_ - t))) ∧ (F.b9 sx_ ∧ F.b9 sy_)))) (
      cond (decide   (IntKind.wrap IntKind.i64       (IntKind.wrap IntKind.i64           (F.z (F.predE i st t x y sx sy h r ra c hi mi sl lt lx ly lh lc le st_ a) (F.pr ra sl a (st_ - t)) + se) *         IntKind.wrap IntKind.i64           (F.z (F.predE i st t x y sx sy h r ra c hi mi sl lt lx ly lh lc le st_ a) (F.pr ra sl a (st_ - t)) + se)) <     F.far (F.z (F.predE i st t x y sx sy h r ra c hi mi sl lt lx ly lh lc le st_ a) (F.px x sx (st_ - t)))       (F.z (F.predE i st t x y sx sy h r ra c hi mi sl lt lx ly lh lc le st_ a) (F.px y sy (st_ - t))) sx_ sy_)) (
       .ret (.fin (.tup [.agg [.int .i64 0, .int .i64 0, .int .i64 0, .int .i64 0, .int .i64 0, .int .i64 0, .int .i64 0, .int .i64 0, .int .i64 0, .int .i64 0, .int .i64 0, .int .i64 0, .int .i64 0, .int .i64 0, .int .i64 0, .int .i64 0, .int .i64 0, .int .i64 0, .int .i64 0, .int .i64 0], .c (.int .i64 8)]) [])) (
       .need ((F.b9 (F.z (F.predE i st t x y sx sy h r ra c hi mi sl lt lx ly lh lc le st_ a) (F.px x sx (st_ - t))) ∧ (F.b9 sx_ ∧ (0 ≤ pl ∧ pl ≤ 256)))) (
       .need ((F.b9 (F.z (F.predE i st t x y sx sy h r ra c hi mi sl lt lx ly lh lc le st_ a) (F.px y sy (st_ - t))) ∧ (F.b9 sy_ ∧ (0 ≤ pl ∧ pl ≤ 256)))) (
       .need (((0 : Int) < 256 ∧ (i64ok   (IntKind.wrap IntKind.i64     (IntKind.wrap IntKind.i64         (IntKind.wrap IntKind.i64 (256 - pl) *           F.z (F.predE i st t x y sx sy h r ra c hi mi sl lt lx ly lh lc le st_ a) (F.pr ra sl a (st_ - t))) +       IntKind.wrap IntKind.i64 (pl * se))) ∧ i64ok   (-IntKind.wrap IntKind.i64       (IntKind.wrap IntKind.i64           (IntKind.wrap IntKind.i64 (256 - pl) *             F.z (F.predE i st t x y sx sy h r ra c hi mi sl lt lx ly lh lc le st_ a) (F.pr ra sl a (st_ - t))) +         IntKind.wrap IntKind.i64 (pl * se)))))) (
       .need ((0 < IntKind.wrap IntKind.i64 (st_ - lt) ∧ i64ok (IntKind.wrap IntKind.i64 (16 * IntKind.wrap IntKind.i64 (sx_ - lx))))) (
       .need ((F.b9 (F.z (F.predE i st t x y sx sy h r ra c hi mi sl lt lx ly lh lc le st_ a) sx) ∧ (F.b9 (IntKind.wrap IntKind.i64 (16 * IntKind.wrap IntKind.i64 (sx_ - lx)) / IntKind.wrap IntKind.i64 (st_ - lt)) ∧ (0 ≤ sp ∧ sp ≤ 256)))) (
       .need ((0 < IntKind.wrap IntKind.i64 (st_ - lt) ∧ i64ok (IntKind.wrap IntKind.i64 (16 * IntKind.wrap IntKind.i64 (sy_ - ly))))) (
       .need ((F.b9 (F.z (F.predE i st t x y sx sy h r ra c hi mi sl lt lx ly lh lc le st_ a) sy) ∧ (F.b9 (IntKind.wrap IntKind.i64 (16 * IntKind.wrap IntKind.i64 (sy_ - ly)) / IntKind.wrap IntKind.i64 (st_ - lt)) ∧ (0 ≤ sp ∧ sp ≤ 256)))) (
       .need ((0 < IntKind.wrap IntKind.i64 (st_ - lt) ∧ (i64ok (IntKind.wrap IntKind.i64 (16 * IntKind.wrap IntKind.i64 (se + le))) ∧ i64ok (-IntKind.wrap IntKind.i64 (16 * IntKind.wrap IntKind.i64 (se + le)))))) (
       .need (((0 : Int) < 256 ∧ (i64ok   (IntKind.wrap IntKind.i64     (IntKind.wrap IntKind.i64         (IntKind.wrap IntKind.i64 (256 - sp) *           F.z (F.predE i st t x y sx sy h r ra c hi mi sl lt lx ly lh lc le st_ a) (F.ps sl a (st_ - t))) +       IntKind.wrap IntKind.i64         (sp *           IntKind.wrap IntKind.i64             (IntKind.wrap IntKind.i64                 (-(-IntKind.wrap IntKind.i64 (16 * IntKind.wrap IntKind.i64 (se + le)) /                       IntKind.wrap IntKind.i64 (st_ - lt)) +                   IntKind.wrap IntKind.i64 (IntKind.wrap IntKind.i64 (16 * a) * IntKind.wrap IntKind.i64 (st_ - lt))) +               2)))) ∧ i64ok   (-IntKind.wrap IntKind.i64       (IntKind.wrap IntKind.i64           (IntKind.wrap IntKind.i64 (256 - sp) *             F.z (F.predE i st t x y sx sy h r ra c hi mi sl lt lx ly lh lc le st_ a) (F.ps sl a (st_ - t))) +         IntKind.wrap IntKind.i64           (sp *             IntKind.wrap IntKind.i64               (IntKind.wrap IntKind.i64                   (-(-IntKind.wrap IntKind.i64 (16 * IntKind.wrap IntKind.i64 (se + le)) /                         IntKind.wrap IntKind.i64 (st_ - lt)) +                     IntKind.wrap IntKind.i64                       (IntKind.wrap IntKind.i64 (16 * a) * IntKind.wrap IntKind.i64 (st_ - lt))) +                 2))))))) (
       .need ((0 < IntKind.wrap IntKind.i64 (st_ - lt) ∧ i64ok (IntKind.wrap IntKind.i64 (16 * IntKind.wrap IntKind.i64 (sh - lh))))) (
       cond (!decide (sc = -1)) (
        cond (!decide     (F.trackE (F.z (F.predE i st t x y sx sy h r ra c hi mi sl lt lx ly lh lc le st_ a) i)         (F.z (F.predE i st t x y sx sy h r ra c hi mi sl lt lx ly lh lc le st_ a) st)         (F.z (F.predE i st t x y sx sy h r ra c hi mi sl lt lx ly lh lc le st_ a) st_)         (F.mix (F.z (F.predE i st t x y sx sy h r ra c hi mi sl lt lx ly lh lc le st_ a) (F.px x sx (st_ - t))) sx_ pl)         (F.mix (F.z (F.predE i st t x y sx sy h r ra c hi mi sl lt lx ly lh lc le st_ a) (F.px y sy (st_ - t))) sy_ pl)         (F.mix (F.z (F.predE i st t x y sx sy h r ra c hi mi sl lt lx ly lh lc le st_ a) sx)           (IntKind.wrap IntKind.i64 (16 * IntKind.wrap IntKind.i64 (sx_ - lx)) / IntKind.wrap IntKind.i64 (st_ - lt))           sp)         (F.mix (F.z (F.predE i st t x y sx sy h r ra c hi mi sl lt lx ly lh lc le st_ a) sy)           (IntKind.wrap IntKind.i64 (16 * IntKind.wrap IntKind.i64 (sy_ - ly)) / IntKind.wrap IntKind.i64 (st_ - lt))           sp)         sh         (F.clamp           (IntKind.wrap IntKind.i64 (16 * IntKind.wrap IntKind.i64 (sh - lh)) / IntKind.wrap IntKind.i64 (st_ - lt))           (-3200) 3200)         (IntKind.wrap IntKind.i64           (-(-IntKind.wrap IntKind.i64                     (IntKind.wrap IntKind.i64                         (IntKind.wrap IntKind.i64 (256 - pl) *                           F.z (F.predE i st t x y sx sy h r ra c hi mi sl lt lx ly lh lc le st_ a)                             (F.pr ra sl a (st_ - t))) +                       IntKind.wrap IntKind.i64 (pl * se)) /                 256) +             2))         sc (IntKind.wrap IntKind.i64 (F.z (F.predE i st t x y sx sy h r ra c hi mi sl lt lx ly lh lc le st_ a) hi + 1))         0         (IntKind.wrap IntKind.i64           (-(-IntKind.wrap IntKind.i64                     (IntKind.wrap IntKind.i64                         (IntKind.wrap IntKind.i64 (256 - sp) *                           F.z (F.predE i st t x y sx sy h r ra c hi mi sl lt lx ly lh lc le st_ a)                             (F.ps sl a (st_ - t))) +                       IntKind.wrap IntKind.i64                         (sp *                           IntKind.wrap IntKind.i64                             (IntKind.wrap IntKind.i64                                 (-(-IntKind.wrap IntKind.i64 (16 * IntKind.wrap IntKind.i64 (se + le)) /                                       IntKind.wrap IntKind.i64 (st_ - lt)) +                                   IntKind.wrap IntKind.i64                                     (IntKind.wrap IntKind.i64 (16 * a) * IntKind.wrap IntKind.i64 (st_ - lt))) +                               2))) /                 256) +             2))         st_ sx_ sy_ sh sc se =       0)) (
         .ret (.fin (.tup [.agg [.int .i64 0, .int .i64 0, .int .i64 0, .int .i64 0, .int .i64 0, .int .i64 0, .int .i64 0, .int .i64 0, .int .i64 0, .int .i64 0, .int .i64 0, .int .i64 0, .int .i64 0, .int .i64 0, .int .i64 0, .int .i64 0, .int .i64 0, .int .i64 0, .int .i64 0, .int .i64 0], .c (.int .i64 8)]) [])) (
         .ret (.fin (.tup [.agg [.int .i64 (F.z (F.predE i st t x y sx sy h r ra c hi mi sl lt lx ly lh lc le st_ a) i), .int .i64 (F.z (F.predE i st t x y sx sy h r ra c hi mi sl lt lx ly lh lc le st_ a) st), .int .i64 (F.z (F.predE i st t x y sx sy h r ra c hi mi sl lt lx ly lh lc le st_ a) st_), .int .i64 (F.mix (F.z (F.predE i st t x y sx sy h r ra c hi mi sl lt lx ly lh lc le st_ a) (F.px x sx (st_ - t))) sx_ pl), .int .i64 (F.mix (F.z (F.predE i st t x y sx sy h r ra c hi mi sl lt lx ly lh lc le st_ a) (F.px y sy (st_ - t))) sy_ pl), .int .i64 (F.mix (F.z (F.predE i st t x y sx sy h r ra c hi mi sl lt lx ly lh lc le st_ a) sx)   (IntKind.wrap IntKind.i64 (16 * IntKind.wrap IntKind.i64 (sx_ - lx)) / IntKind.wrap IntKind.i64 (st_ - lt)) sp), .int .i64 (F.mix (F.z (F.predE i st t x y sx sy h r ra c hi mi sl lt lx ly lh lc le st_ a) sy)   (IntKind.wrap IntKind.i64 (16 * IntKind.wrap IntKind.i64 (sy_ - ly)) / IntKind.wrap IntKind.i64 (st_ - lt)) sp), .int .i64 sh, .int .i64 (F.clamp (IntKind.wrap IntKind.i64 (16 * IntKind.wrap IntKind.i64 (sh - lh)) / IntKind.wrap IntKind.i64 (st_ - lt))   (-3200) 3200), .int .i64 (IntKind.wrap IntKind.i64   (-(-IntKind.wrap IntKind.i64             (IntKind.wrap IntKind.i64                 (IntKind.wrap IntKind.i64 (256 - pl) *                   F.z (F.predE i st t x y sx sy h r ra c hi mi sl lt lx ly lh lc le st_ a) (F.pr ra sl a (st_ - t))) +               IntKind.wrap IntKind.i64 (pl * se)) /         256) +     2)), .int .i64 sc, .int .i64 (IntKind.wrap IntKind.i64 (F.z (F.predE i st t x y sx sy h r ra c hi mi sl lt lx ly lh lc le st_ a) hi + 1)), .int .i64 0, .int .i64 (IntKind.wrap IntKind.i64   (-(-IntKind.wrap IntKind.i64             (IntKind.wrap IntKind.i64                 (IntKind.wrap IntKind.i64 (256 - sp) *                   F.z (F.predE i st t x y sx sy h r ra c hi mi sl lt lx ly lh lc le st_ a) (F.ps sl a (st_ - t))) +               IntKind.wrap IntKind.i64                 (sp *                   IntKind.wrap IntKind.i64                     (IntKind.wrap IntKind.i64                         (-(-IntKind.wrap IntKind.i64 (16 * IntKind.wrap IntKind.i64 (se + le)) /                               IntKind.wrap IntKind.i64 (st_ - lt)) +                           IntKind.wrap IntKind.i64                             (IntKind.wrap IntKind.i64 (16 * a) * IntKind.wrap IntKind.i64 (st_ - lt))) +                       2))) /         256) +     2)), .int .i64 st_, .int .i64 sx_, .int .i64 sy_, .int .i64 sh, .int .i64 sc, .int .i64 se], .c (.int .i64 0)]) []))) (
        cond (!decide     (F.trackE (F.z (F.predE i st t x y sx sy h r ra c hi mi sl lt lx ly lh lc le st_ a) i)         (F.z (F.predE i st t x y sx sy h r ra c hi mi sl lt lx ly lh lc le st_ a) st)         (F.z (F.predE i st t x y sx sy h r ra c hi mi sl lt lx ly lh lc le st_ a) st_)         (F.mix (F.z (F.predE i st t x y sx sy h r ra c hi mi sl lt lx ly lh lc le st_ a) (F.px x sx (st_ - t))) sx_ pl)         (F.mix (F.z (F.predE i st t x y sx sy h r ra c hi mi sl lt lx ly lh lc le st_ a) (F.px y sy (st_ - t))) sy_ pl)         (F.mix (F.z (F.predE i st t x y sx sy h r ra c hi mi sl lt lx ly lh lc le st_ a) sx)           (IntKind.wrap IntKind.i64 (16 * IntKind.wrap IntKind.i64 (sx_ - lx)) / IntKind.wrap IntKind.i64 (st_ - lt))           sp)         (F.mix (F.z (F.predE i st t x y sx sy h r ra c hi mi sl lt lx ly lh lc le st_ a) sy)           (IntKind.wrap IntKind.i64 (16 * IntKind.wrap IntKind.i64 (sy_ - ly)) / IntKind.wrap IntKind.i64 (st_ - lt))           sp)         sh         (F.clamp           (IntKind.wrap IntKind.i64 (16 * IntKind.wrap IntKind.i64 (sh - lh)) / IntKind.wrap IntKind.i64 (st_ - lt))           (-3200) 3200)         (IntKind.wrap IntKind.i64           (-(-IntKind.wrap IntKind.i64                     (IntKind.wrap IntKind.i64                         (IntKind.wrap IntKind.i64 (256 - pl) *                           F.z (F.predE i st t x y sx sy h r ra c hi mi sl lt lx ly lh lc le st_ a)                             (F.pr ra sl a (st_ - t))) +                       IntKind.wrap IntKind.i64 (pl * se)) /                 256) +             2))         (F.z (F.predE i st t x y sx sy h r ra c hi mi sl lt lx ly lh lc le st_ a) c)         (IntKind.wrap IntKind.i64 (F.z (F.predE i st t x y sx sy h r ra c hi mi sl lt lx ly lh lc le st_ a) hi + 1)) 0         (IntKind.wrap IntKind.i64           (-(-IntKind.wrap IntKind.i64                     (IntKind.wrap IntKind.i64                         (IntKind.wrap IntKind.i64 (256 - sp) *                           F.z (F.predE i st t x y sx sy h r ra c hi mi sl lt lx ly lh lc le st_ a)                             (F.ps sl a (st_ - t))) +                       IntKind.wrap IntKind.i64                         (sp *                           IntKind.wrap IntKind.i64                             (IntKind.wrap IntKind.i64                                 (-(-IntKind.wrap IntKind.i64 (16 * IntKind.wrap IntKind.i64 (se + le)) /                                       IntKind.wrap IntKind.i64 (st_ - lt)) +                                   IntKind.wrap IntKind.i64                                     (IntKind.wrap IntKind.i64 (16 * a) * IntKind.wrap IntKind.i64 (st_ - lt))) +                               2))) /                 256) +             2))         st_ sx_ sy_ sh sc se =       0)) (
         .ret (.fin (.tup [.agg [.int .i64 0, .int .i64 0, .int .i64 0, .int .i64 0, .int .i64 0, .int .i64 0, .int .i64 0, .int .i64 0, .int .i64 0, .int .i64 0, .int .i64 0, .int .i64 0, .int .i64 0, .int .i64 0, .int .i64 0, .int .i64 0, .int .i64 0, .int .i64 0, .int .i64 0, .int .i64 0], .c (.int .i64 8)]) [])) (
         .ret (.fin (.tup [.agg [.int .i64 (F.z (F.predE i st t x y sx sy h r ra c hi mi sl lt lx ly lh lc le st_ a) i), .int .i64 (F.z (F.predE i st t x y sx sy h r ra c hi mi sl lt lx ly lh lc le st_ a) st), .int .i64 (F.z (F.predE i st t x y sx sy h r ra c hi mi sl lt lx ly lh lc le st_ a) st_), .int .i64 (F.mix (F.z (F.predE i st t x y sx sy h r ra c hi mi sl lt lx ly lh lc le st_ a) (F.px x sx (st_ - t))) sx_ pl), .int .i64 (F.mix (F.z (F.predE i st t x y sx sy h r ra c hi mi sl lt lx ly lh lc le st_ a) (F.px y sy (st_ - t))) sy_ pl), .int .i64 (F.mix (F.z (F.predE i st t x y sx sy h r ra c hi mi sl lt lx ly lh lc le st_ a) sx)   (IntKind.wrap IntKind.i64 (16 * IntKind.wrap IntKind.i64 (sx_ - lx)) / IntKind.wrap IntKind.i64 (st_ - lt)) sp), .int .i64 (F.mix (F.z (F.predE i st t x y sx sy h r ra c hi mi sl lt lx ly lh lc le st_ a) sy)   (IntKind.wrap IntKind.i64 (16 * IntKind.wrap IntKind.i64 (sy_ - ly)) / IntKind.wrap IntKind.i64 (st_ - lt)) sp), .int .i64 sh, .int .i64 (F.clamp (IntKind.wrap IntKind.i64 (16 * IntKind.wrap IntKind.i64 (sh - lh)) / IntKind.wrap IntKind.i64 (st_ - lt))   (-3200) 3200), .int .i64 (IntKind.wrap IntKind.i64   (-(-IntKind.wrap IntKind.i64             (IntKind.wrap IntKind.i64                 (IntKind.wrap IntKind.i64 (256 - pl) *                   F.z (F.predE i st t x y sx sy h r ra c hi mi sl lt lx ly lh lc le st_ a) (F.pr ra sl a (st_ - t))) +               IntKind.wrap IntKind.i64 (pl * se)) /         256) +     2)), .int .i64 (F.z (F.predE i st t x y sx sy h r ra c hi mi sl lt lx ly lh lc le st_ a) c), .int .i64 (IntKind.wrap IntKind.i64 (F.z (F.predE i st t x y sx sy h r ra c hi mi sl lt lx ly lh lc le st_ a) hi + 1)), .int .i64 0, .int .i64 (IntKind.wrap IntKind.i64   (-(-IntKind.wrap IntKind.i64             (IntKind.wrap IntKind.i64                 (IntKind.wrap IntKind.i64 (256 - sp) *                   F.z (F.predE i st t x y sx sy h r ra c hi mi sl lt lx ly lh lc le st_ a) (F.ps sl a (st_ - t))) +               IntKind.wrap IntKind.i64                 (sp *                   IntKind.wrap IntKind.i64                     (IntKind.wrap IntKind.i64                         (-(-IntKind.wrap IntKind.i64 (16 * IntKind.wrap IntKind.i64 (se + le)) /                               IntKind.wrap IntKind.i64 (st_ - lt)) +                           IntKind.wrap IntKind.i64                             (IntKind.wrap IntKind.i64 (16 * a) * IntKind.wrap IntKind.i64 (st_ - lt))) +                       2))) /         256) +     2)), .int .i64 st_, .int .i64 sx_, .int .i64 sy_, .int .i64 sh, .int .i64 sc, .int .i64 se], .c (.int .i64 0)]) []))))))))))))))))))))) := by kernel_rfl

theorem updated_sound : Sound Try.prog cod 59 s_updated := sound_flat (cfg := (mkW L_update)) L_update_ok mixed Try.func59 rfl rfl _ 400 fun args H r news hg => by
  unfold s_updated at hg
  split at hg
  · split at hg
    · rename_i _ i st t x y sx sy h r ra c hi mi sl lt lx ly lh lc le _ st_ sx_ sy_ sh sc se a pl sp hrd
      have hargs := rd_spec hrd
      simp only [List.map, wr1, ints, List.tail] at hargs
      subst hargs
      clear hrd
      rw [updated_tree]
      simp only [T.gives, T.wp, Prod.mk.injEq] at hg
      obtain ⟨rfl, rfl⟩ := hg
      simp only [T.wp, T.wp_cond, Fin.fin.injEq, SV.c.injEq, SV.tup.injEq, SV.agg.injEq, List.cons.injEq, Cell.bool.injEq, Cell.int.injEq, and_true, true_and, decide_eq_true_eq]
      have hb := trackE_zero (i := i) (st := st) (t := t) (x := x) (y := y) (sx := sx) (sy := sy) (h := h) (r := r) (ra := ra) (c := c) (hi := hi) (mi := mi) (sl := sl) (lt := lt) (lx := lx) (ly := ly) (lh := lh) (lc := lc) (le := le)
      have hU : F.updE i st t x y sx sy h r ra c hi mi sl lt lx ly lh lc le st_ sx_ sy_ sh sc se a pl sp = F.updE i st t x y sx sy h r ra c hi mi sl lt lx ly lh lc le st_ sx_ sy_ sh sc se a pl sp := rfl
      conv at hU => rhs; unfold F.updE
      generalize F.updE i st t x y sx sy h r ra c hi mi sl lt lx ly lh lc le st_ sx_ sy_ sh sc se a pl sp = W at hU ⊢
      by_cases he : F.trackE i st t x y sx sy h r ra c hi mi sl lt lx ly lh lc le = 0
      · obtain ⟨k1, k2, k3, k4, k5, k6, k7, k8, k9, k10, k11, k12, k13, k14, k15, k16⟩ := hb he
        simp only [he] at hU ⊢
        by_cases hs : F.spot st_ sx_ sy_ sh sc se = 0
        · have hs' := spot_zero hs
          have hl' := spot_zero k15
          have hw0 : IntKind.wrap .i64 (st_ - lt) = st_ - lt := wrap_ok (by unfold i64ok; omega)
          simp only [hs, hw0, out_inb] at hU ⊢
          by_cases h1 : F.inb pl 0 256 = true
          · simp only [h1] at hU ⊢
            by_cases h2 : F.inb sp 0 256 = true
            · simp only [h2] at hU ⊢
              by_cases h3 : st_ - lt ≤ 0
              · simp [h3] at hU
                simp [h3, F.z, hU]
              · by_cases hp : F.predE i st t x y sx sy h r ra c hi mi sl lt lx ly lh lc le st_ a = 0
                · obtain ⟨p1, p2, p3, p4⟩ := predE_zero hp he
                  obtain ⟨m1, m2, m3, m4, m5, m6, m7, m8, m9, m10, -⟩ := trackE_zero p4
                  simp only [hp, z0, h3] at hU ⊢
                  unfold F.usp F.urate F.urad F.usl F.um F.ucode at hU
                  unfold F.usp F.urate F.urad F.usl F.um F.ucode
                  generalize (F.px x sx (st_ - t)) = P1 at *
                  generalize (F.px y sy (st_ - t)) = P2 at *
                  generalize (F.pr ra sl a (st_ - t)) = P3 at *
                  generalize (F.ps sl a (st_ - t)) = P4 at *
                  obtain ⟨⟨w1, w2, w3⟩, ⟨w4, w5, w6, w7, w8, w9⟩, ⟨w10, w11, w12⟩, ⟨w13, w14, w15⟩, ⟨w16, w17, w18, w19, w20, w21, w22⟩, ⟨w23, w24, w25, w26, w27, w28⟩, ⟨w29, w30⟩⟩ :=
                    upd_need (d := st_ - lt) m5 m10 hs'.2.1 hs'.2.2.1 hs'.2.2.2.1 hs'.2.2.2.2.2 hl'.2.1 hl'.2.2.1 hl'.2.2.2.1 hl'.2.2.2.2.2 (inb_true.1 p2) (inb_true.1 h1) (inb_true.1 h2) (by omega)
                  have b1 : F.b9 P1 ∧ F.b9 P2 ∧ F.b9 sx_ ∧ F.b9 sy_ ∧ F.b9 sx ∧ F.b9 sy := by unfold F.b9; omega
                  obtain ⟨b1, b2, b3, b4, b5, b6⟩ := b1
                  have h1' := inb_true.1 h1
                  have h2' := inb_true.1 h2
                  have hd0 : 0 < st_ - lt := by omega
                  simp only [wrap_ok w1, wrap_ok w2, wrap_ok w4, wrap_ok w5, wrap_ok w6, wrap_ok w7, wrap_ok w9, wrap_ok w10, wrap_ok w11, wrap_ok w13, wrap_ok w14, wrap_ok w16, wrap_ok w17, wrap_ok w19, wrap_ok w20, wrap_ok w21, wrap_ok w22, wrap_ok w23, wrap_ok w24, wrap_ok w25, wrap_ok w26, wrap_ok w28, wrap_ok w29, wrap_ok w30,
                    b1, b2, b3, b4, b5, b6, w3, w7, w8, w11, w12, w14, w15, w17, w18, w26, w27, w30, hd0, h1', h2', and_self, true_and, and_true]
                  by_cases hf : (P3 + se) * (P3 + se) < F.far P1 P2 sx_ sy_
                  · have hf' : ¬ F.far P1 P2 sx_ sy_ ≤ (P3 + se) * (P3 + se) := by omega
                    simp [hf] at hU
                    simp [hf, hf', hU, F.z]
                  · have hf' : F.far P1 P2 sx_ sy_ ≤ (P3 + se) * (P3 + se) := by omega
                    by_cases hsc : sc = -1
                    · subst hsc
                      simp only [if_true, hf, if_false, Bool.and_self] at hU
                      simp only [if_true, hf, hf']
                      generalize F.trackE i st st_ (F.mix P1 sx_ pl) (F.mix P2 sy_ pl) (F.mix sx (16 * (sx_ - lx) / (st_ - lt)) sp) (F.mix sy (16 * (sy_ - ly) / (st_ - lt)) sp) sh (F.clamp (16 * (sh - lh) / (st_ - lt)) (-3200) 3200) (-(-((256 - pl) * P3 + pl * se) / 256) + 2) c (IntKind.wrap .i64 (hi + 1)) 0 (-(-((256 - sp) * P4 + sp * (-(-(16 * (se + le)) / (st_ - lt)) + 16 * a * (st_ - lt) + 2)) / 256) + 2) st_ sx_ sy_ sh (-1) se = U at hU ⊢
                      by_cases hu : U = 0
                      · simp [hu] at hU
                        simp [hu, hU, F.z]
                      · simp [hu] at hU
                        simp [hu, hU, F.z]
                    · simp only [if_true, hf, if_false, Bool.and_self, hsc] at hU
                      simp only [if_true, hf, hf', hsc, if_false]
                      generalize F.trackE i st st_ (F.mix P1 sx_ pl) (F.mix P2 sy_ pl) (F.mix sx (16 * (sx_ - lx) / (st_ - lt)) sp) (F.mix sy (16 * (sy_ - ly) / (st_ - lt)) sp) sh (F.clamp (16 * (sh - lh) / (st_ - lt)) (-3200) 3200) (-(-((256 - pl) * P3 + pl * se) / 256) + 2) sc (IntKind.wrap .i64 (hi + 1)) 0 (-(-((256 - sp) * P4 + sp * (-(-(16 * (se + le)) / (st_ - lt)) + 16 * a * (st_ - lt) + 2)) / 256) + 2) st_ sx_ sy_ sh sc se = U at hU ⊢
                      by_cases hu : U = 0
                      · simp [hu] at hU
                        simp [hu, hU, F.z]
                      · simp [hu] at hU
                        simp [hu, hU, F.z]
                · simp [h3, hp] at hU
                  simp [h3, hp, hU, F.z]
            · simp [h2] at hU
              simp [h2, hU, F.z]
          · simp [h1] at hU
            simp [h1, hU, F.z]
        · simp [hs] at hU
          simp [hs, hU, F.z]
      · simp [he] at hU
        simp [he, hU, F.z]
    · exact hg.elim
  · exact hg.elim

noncomputable def L_updated : Sums cod := (59, s_updated) :: L_update
noncomputable def C_updated : Cfg cod := mkC L_updated

theorem L_updated_ok : Snd Try.prog cod L_updated := .cons updated_sound L_update_ok

noncomputable def s_fulaw : Summ cod := fun args H => match H with
  | [] => match rd args with
    | some [[_, i, st, t, x, y, sx, sy, h, r, ra, c, hi, mi, sl, lt, lx, ly, lh, lc, le], [_, st_, sx_, sy_, sh, sc, se], [a], [pl], [sp]] => (.ret (.c (.bool true), []))
    | _ => .fail
  | _ => .fail

theorem fulaw_tree (i st t x y sx sy h r ra c hi mi sl lt lx ly lh lc le st_ sx_ sy_ sh sc se a pl sp : Int) : symF C_updated [] Try.f11.results.toList (List.length ([] : Heap cod)) 400 [.code (codeOf Try.f11)] ⟨argsS Try.f11 [.agg [.int .i64 i, .int .i64 st, .int .i64 t, .int .i64 x, .int .i64 y, .int .i64 sx, .int .i64 sy, .int .i64 h, .int .i64 r, .int .i64 ra, .int .i64 c, .int .i64 hi, .int .i64 mi, .int .i64 sl, .int .i64 lt, .int .i64 lx, .int .i64 ly, .int .i64 lh, .int .i64 lc, .int .i64 le], .agg [.int .i64 st_, .int .i64 sx_, .int .i64 sy_, .int .i64 sh, .int .i64 sc, .int .i64 se], .c (.int .i64 a), .c (.int .i64 pl), .c (.int .i64 sp)], []⟩ =
 cond (decide   (F.updE i st t x y sx sy h r ra c hi mi sl lt lx ly lh lc le st_ sx_ sy_ sh sc se a pl sp =     F.updE i st t x y sx sy h r ra c hi mi sl lt lx ly lh lc le st_ sx_ sy_ sh sc se a pl sp)) (
 .ret (.fin (.c (.bool (decide       (F.z (F.updE i st t x y sx sy h r ra c hi mi sl lt lx ly lh lc le st_ sx_ sy_ sh sc se a pl sp) i =         F.z (F.updE i st t x y sx sy h r ra c hi mi sl lt lx ly lh lc le st_ sx_ sy_ sh sc se a pl sp) i) &&     (decide         (F.z (F.updE i st t x y sx sy h r ra c hi mi sl lt lx ly lh lc le st_ sx_ sy_ sh sc se a pl sp) st =           F.z (F.updE i st t x y sx sy h r ra c hi mi sl lt lx ly lh lc le st_ sx_ sy_ sh sc se a pl sp) st) &&       (decide           (F.z (F.updE i st t x y sx sy h r ra c hi mi sl lt lx ly lh lc le st_ sx_ sy_ sh sc se a pl sp) st_ =             F.z (F.updE i st t x y sx sy h r ra c hi mi sl lt lx ly lh lc le st_ sx_ sy_ sh sc se a pl sp) st_) &&         (decide               (F.z (F.updE i st t x y sx sy h r ra c hi mi sl lt lx ly lh lc le st_ sx_ sy_ sh sc se a pl sp)                   (F.mix (F.px x sx (st_ - t)) sx_ pl) =                 F.z (F.updE i st t x y sx sy h r ra c hi mi sl lt lx ly lh lc le st_ sx_ sy_ sh sc se a pl sp)                   (F.mix (F.px x sx (st_ - t)) sx_ pl)) &&             decide               (F.z (F.updE i st t x y sx sy h r ra c hi mi sl lt lx ly lh lc le st_ sx_ sy_ sh sc se a pl sp)                   (F.mix (F.px y sy (st_ - t)) sy_ pl) =                 F.z (F.updE i st t x y sx sy h r ra c hi mi sl lt lx ly lh lc le st_ sx_ sy_ sh sc se a pl sp)                   (F.mix (F.px y sy (st_ - t)) sy_ pl)) &&           (decide                 (F.z (F.updE i st t x y sx sy h r ra c hi mi sl lt lx ly lh lc le st_ sx_ sy_ sh sc se a pl sp)                     (F.usp sx sx_ lx (st_ - lt) sp) =                   F.z (F.updE i st t x y sx sy h r ra c hi mi sl lt lx ly lh lc le st_ sx_ sy_ sh sc se a pl sp)                     (F.usp sx sx_ lx (st_ - lt) sp)) &&               decide                 (F.z (F.updE i st t x y sx sy h r ra c hi mi sl lt lx ly lh lc le st_ sx_ sy_ sh sc se a pl sp)                     (F.usp sy sy_ ly (st_ - lt) sp) =                   F.z (F.updE i st t x y sx sy h r ra c hi mi sl lt lx ly lh lc le st_ sx_ sy_ sh sc se a pl sp)                     (F.usp sy sy_ ly (st_ - lt) sp)) &&             (decide                 (F.z (F.updE i st t x y sx sy h r ra c hi mi sl lt lx ly lh lc le st_ sx_ sy_ sh sc se a pl sp) sh =                   F.z (F.updE i st t x y sx sy h r ra c hi mi sl lt lx ly lh lc le st_ sx_ sy_ sh sc se a pl sp) sh) &&               (decide                   (F.z (F.updE i st t x y sx sy h r ra c hi mi sl lt lx ly lh lc le st_ sx_ sy_ sh sc se a pl sp)                       (F.urate sh lh (st_ - lt)) =                     F.z (F.updE i st t x y sx sy h r ra c hi mi sl lt lx ly lh lc le st_ sx_ sy_ sh sc se a pl sp)                       (F.urate sh lh (st_ - lt))) &&                 (decide                     (F.z (F.updE i st t x y sx sy h r ra c hi mi sl lt lx ly lh lc le st_ sx_ sy_ sh sc se a pl sp)                         (F.urad pl (F.pr ra sl a (st_ - t)) se) =                       F.z (F.updE i st t x y sx sy h r ra c hi mi sl lt lx ly lh lc le st_ sx_ sy_ sh sc se a pl sp)                         (F.urad pl (F.pr ra sl a (st_ - t)) se)) &&                   (decide                       (F.z (F.updE i st t x y sx sy h r ra c hi mi sl lt lx ly lh lc le st_ sx_ sy_ sh sc se a pl sp)                           (F.ucode sc c) =                         F.z (F.updE i st t x y sx sy h r ra c hi mi sl lt lx ly lh lc le st_ sx_ sy_ sh sc se a pl sp)                           (F.ucode sc c)) &&                     (decide                         (F.z (F.updE i st t x y sx sy h r ra c hi mi sl lt lx ly lh lc le st_ sx_ sy_ sh sc se a pl sp)                             (IntKind.wrap IntKind.i64 (hi + 1)) =                           F.z (F.updE i st t x y sx sy h r ra c hi mi sl lt lx ly lh lc le st_ sx_ sy_ sh sc se a pl sp)                             (IntKind.wrap IntKind.i64 (hi + 1))) &&                       decide                         (F.z (F.updE i st t x y sx sy h r ra c hi mi sl lt lx ly lh lc le st_ sx_ sy_ sh sc se a pl sp)                             0 =                           F.z (F.updE i st t x y sx sy h r ra c hi mi sl lt lx ly lh lc le st_ sx_ sy_ sh sc se a pl sp)                             0)))))))))) &&   (decide       (F.z (F.updE i st t x y sx sy h r ra c hi mi sl lt lx ly lh lc le st_ sx_ sy_ sh sc se a pl sp)           (F.usl sp (F.ps sl a (st_ - t)) (F.um se le (st_ - lt) a)) =         F.z (F.updE i st t x y sx sy h r ra c hi mi sl lt lx ly lh lc le st_ sx_ sy_ sh sc se a pl sp)           (F.usl sp (F.ps sl a (st_ - t)) (F.um se le (st_ - lt) a))) &&     (decide         (F.z (F.updE i st t x y sx sy h r ra c hi mi sl lt lx ly lh lc le st_ sx_ sy_ sh sc se a pl sp) st_ =           F.z (F.updE i st t x y sx sy h r ra c hi mi sl lt lx ly lh lc le st_ sx_ sy_ sh sc se a pl sp) st_) &&       (decide             (F.z (F.updE i st t x y sx sy h r ra c hi mi sl lt lx ly lh lc le st_ sx_ sy_ sh sc se a pl sp) sx_ =               F.z (F.updE i st t x y sx sy h r ra c hi mi sl lt lx ly lh lc le st_ sx_ sy_ sh sc se a pl sp) sx_) &&           decide             (F.z (F.updE i st t x y sx sy h r ra c hi mi sl lt lx ly lh lc le st_ sx_ sy_ sh sc se a pl sp) sy_ =               F.z (F.updE i st t x y sx sy h r ra c hi mi sl lt lx ly lh lc le st_ sx_ sy_ sh sc se a pl sp) sy_) &&         (decide             (F.z (F.updE i st t x y sx sy h r ra c hi mi sl lt lx ly lh lc le st_ sx_ sy_ sh sc se a pl sp) sh =               F.z (F.updE i st t x y sx sy h r ra c hi mi sl lt lx ly lh lc le st_ sx_ sy_ sh sc se a pl sp) sh) &&           (decide               (F.z (F.updE i st t x y sx sy h r ra c hi mi sl lt lx ly lh lc le st_ sx_ sy_ sh sc se a pl sp) sc =                 F.z (F.updE i st t x y sx sy h r ra c hi mi sl lt lx ly lh lc le st_ sx_ sy_ sh sc se a pl sp) sc) &&             decide               (F.z (F.updE i st t x y sx sy h r ra c hi mi sl lt lx ly lh lc le st_ sx_ sy_ sh sc se a pl sp) se =                 F.z (F.updE i st t x y sx sy h r ra c hi mi sl lt lx ly lh lc le st_ sx_ sy_ sh sc se a pl sp) se))))))))) [])) (
 .ret (.fin (.c (.bool false)) [])) := by kernel_rfl

theorem fulaw_sound : Sound Try.prog cod 11 s_fulaw := sound_flat (cfg := C_updated) L_updated_ok mixed Try.func11 rfl rfl _ 400 fun args H r news hg => by
  unfold s_fulaw at hg
  split at hg
  · split at hg
    · rename_i _ i st t x y sx sy h r ra c hi mi sl lt lx ly lh lc le _ st_ sx_ sy_ sh sc se a pl sp hrd
      have hargs := rd_spec hrd
      simp only [List.map, wr1, ints, List.tail] at hargs
      subst hargs
      clear hrd
      rw [fulaw_tree]
      simp only [T.gives, T.wp, Prod.mk.injEq] at hg
      obtain ⟨rfl, rfl⟩ := hg
      simp only [T.wp, T.wp_cond, Fin.fin.injEq, SV.c.injEq, SV.tup.injEq, SV.agg.injEq, List.cons.injEq, Cell.bool.injEq, Cell.int.injEq, and_true, true_and, decide_eq_true_eq]
      simp
    · exact hg.elim
  · exact hg.elim

noncomputable def L_fulaw : Sums cod := (11, s_fulaw) :: L_updated
noncomputable def C_fulaw : Cfg cod := mkC L_fulaw

theorem L_fulaw_ok : Snd Try.prog cod L_fulaw := .cons fulaw_sound L_updated_ok

end
end Go.Proofs.Ythljcjighomgkaa
