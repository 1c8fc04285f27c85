/- Part of a claim: lemmas on the way to its theorem; each states its own conditions. -/
import Derived.Test.YthljcjighomgkaaFp
import Derived.Test.YthljcjighomgkaaSym22
namespace Go.Proofs.Ythljcjighomgkaa
open Sym Go.RowKit
noncomputable section
set_option maxRecDepth 100000
set_option maxHeartbeats 4000000

def resS (p : Int × Int) : SV := .tup [.c (.int .i64 p.1), .c (.int .i64 p.2)]
namespace F
def aout (n hi : Int) : Bool := decide (n < 0) || decide (hi < n)
def tstF (sq rad hg bd lat ver : Int) : Bool := decide (sq < (lat + rad) * (lat + rad)) && decide (hg < ver + bd)
def tstC (sq rad hg bd lat ver : Int) : Bool := decide (0 < lat - rad) && (decide (sq < (lat - rad) * (lat - rad)) && decide (hg < ver - bd))
def alE (i st t x y sx sy h r ra c hi mi sl lt lx ly lh lc le i2 st2 t2 x2 y2 sx2 sy2 h2 r2 ra2 c2 hi2 mi2 sl2 lt2 lx2 ly2 lh2 lc2 le2 lat ver sec acc cl : Int) : Int := if F.trackE i st t x y sx sy h r ra c hi mi sl lt lx ly lh lc le = 0 then (if F.trackE i2 st2 t2 x2 y2 sx2 sy2 h2 r2 ra2 c2 hi2 mi2 sl2 lt2 lx2 ly2 lh2 lc2 le2 = 0 then (if aout lat 1000000 || (aout ver 60000 || (aout sec 300 || (aout acc 20 || aout cl 200))) then 4 else 0) else F.trackE i2 st2 t2 x2 y2 sx2 sy2 h2 r2 ra2 c2 hi2 mi2 sl2 lt2 lx2 ly2 lh2 lc2 le2) else F.trackE i st t x y sx sy h r ra c hi mi sl lt lx ly lh lc le
def hit (f : Int → Int → Int → Int → Int → Int → Bool) (i st t x y sx sy h r ra c hi mi sl lt lx ly lh lc le i2 st2 t2 x2 y2 sx2 sy2 h2 r2 ra2 c2 hi2 mi2 sl2 lt2 lx2 ly2 lh2 lc2 le2 lat ver acc cl n : Int) : Int := if F.predE i st t x y sx sy h r ra c hi mi sl lt lx ly lh lc le n acc = 0 ∧ F.predE i2 st2 t2 x2 y2 sx2 sy2 h2 r2 ra2 c2 hi2 mi2 sl2 lt2 lx2 ly2 lh2 lc2 le2 n acc = 0 then (if f (F.far (F.px x sx (n - t)) (F.px y sy (n - t)) (F.px x2 sx2 (n - t2)) (F.px y2 sy2 (n - t2))) (F.pr ra sl acc (n - t) + F.pr ra2 sl2 acc (n - t2)) (max (F.ph h r (n - t) - F.ph h2 r2 (n - t2)) (F.ph h2 r2 (n - t2) - F.ph h r (n - t))) (200 + cl * (2 * n - t - t2)) lat ver then 2 else 0) else 1
def sear (f : Int → Int) (from_ k : Int) : Nat → Int × Int
  | 0 => (0, 8)
  | m + 1 => if f (from_ + k) = 1 then (0, 12) else if f (from_ + k) = 2 then (k, 0) else sear f from_ (k + 1) m
def sea (e : Int) (f : Int → Int) (from_ sec : Int) : Int × Int := if e = 0 then sear f from_ 0 (sec + 1).toNat else (0, e)
end F

noncomputable def s_aout : Summ cod := fun args H => match H with
  | [] => match rd args with
    | some [[n], [hi]] => (.ret (.c (.bool (F.aout n hi)), []))
    | _ => .fail
  | _ => .fail

theorem aout_tree (n hi : Int) : symF C_moves [] Try.f94.results.toList (List.length ([] : Heap cod)) 400 [.code (codeOf Try.f94)] ⟨argsS Try.f94 [.c (.int .i64 n), .c (.int .i64 hi)], []⟩ =
 cond (decide (n < 0)) (
 .ret (.fin (.c (.bool true)) [])) (
 .ret (.fin (.c (.bool (decide (hi < n)))) [])) := by kernel_rfl

theorem aout_sound : Sound Try.prog cod 94 s_aout := sound_flat (cfg := C_moves) L_moves_ok mixed Try.func94 rfl rfl _ 400 fun args H r news hg => by
  unfold s_aout at hg
  split at hg
  · split at hg
    · rename_i n hi hrd
      have hargs := rd_spec hrd
      simp only [List.map, wr1, ints, List.tail] at hargs
      subst hargs
      clear hrd
      rw [aout_tree]
      try simp only [T.gives, T.wp, Prod.mk.injEq] at hg
      obtain ⟨rfl, rfl⟩ := hg
      simp only [T.wp, T.wp_cond, Fin.fin.injEq, SV.c.injEq, Cell.bool.injEq, Cell.int.injEq, and_true, true_and, decide_eq_true_eq, F.aout]
      (repeat' split) <;> simp_all <;> omega
    · exact hg.elim
  · exact hg.elim

noncomputable def L_aout : Sums cod := (94, .p s_aout) :: L_moves
noncomputable def C_aout : Cfg cod := mkC L_aout

theorem L_aout_ok : Snd Try.prog cod L_aout := .cons aout_sound L_moves_ok


def cuts_tf : Cuts := []

theorem tf_t0 (sq : Int) (rad : Int) (hg : Int) (bd : Int) (lat ver : Int) : symF C_aout cuts_tf Try.f81.results.toList 1 400 [.code (codeOf Try.f81)] ⟨argsS Try.f81 [.c (.int .i64 sq), .c (.int .i64 rad), .c (.int .i64 hg), .c (.int .i64 bd), .c (.ptr 0 0 0)], ([.rblk [.int .i64 lat, .int .i64 ver]] : Heap cod)⟩ =
.need (i64ok (lat + rad)) (
.need (i64ok ((lat + rad) * (lat + rad))) (
 cond (decide (sq < (lat + rad) * (lat + rad))) (
 .need (i64ok (ver + bd)) (
 .ret (.fin (.c (.bool (decide (hg < ver + bd)))) []))) (
 .ret (.fin (.c (.bool false)) [])))) := by kernel_rfl



theorem tf_run (sq : Int) (rad : Int) (hg : Int) (bd : Int) (lat ver : Int) (b0 : Base) (hb : b0.n = 1) (h0 : F.b9 lat ∧ F.b9 ver ∧ F.b9 rad ∧ F.b9 bd) : Sym.Runs Try.prog b0 [.code (codeOf Try.f81)] ⟨argsS Try.f81 [.c (.int .i64 sq), .c (.int .i64 rad), .c (.int .i64 hg), .c (.int .i64 bd), .c (.ptr 0 0 0)], ([.rblk [.int .i64 lat, .int .i64 ver]] : Heap cod)⟩ (Sym.Ends Try.prog Try.f81 1 (.c (.bool (F.tstF sq rad hg bd lat ver))) []) := by
  refine Runs.go (cfg := C_aout) L_aout_ok mixed cuts_tf 400 hb (tf_t0 sq rad hg bd lat ver) ?_
  obtain ⟨h1, h2, h3, h4⟩ := h0
  unfold F.b9 at *
  have k1 := sq_bd (x := lat + rad) (a := 2000000000) (by omega)
  have g1 : i64ok (lat + rad) := by unfold i64ok; omega
  have g2 : i64ok ((lat + rad) * (lat + rad)) := by unfold i64ok; omega
  have g3 : i64ok (ver + bd) := by unfold i64ok; omega
  unfold F.tstF
  simp only [T.wp, T.wp_cond, Aft, Int.ofNat_eq_natCast, decide_eq_true_eq, and_true, true_and, Nat.zero_add, Bool.not_eq_true', decide_eq_false_iff_not, g1, g2, g3]
  clear h1 h2 h3 h4 k1 g1 g2 g3
  generalize (lat + rad) * (lat + rad) = q
  split <;> simp_all <;> omega



noncomputable def s_tf : Summ cod := fun args H => match args, H with
  | [.c (.int .i64 sq), .c (.int .i64 rad), .c (.int .i64 hg), .c (.int .i64 bd), .c (.ptr 0 0 0)], [.rblk [.int .i64 lat, .int .i64 ver]] => .need ((F.b9 lat ∧ F.b9 ver ∧ F.b9 rad ∧ F.b9 bd)) (.ret (.c (.bool (F.tstF sq rad hg bd lat ver)), []))
  | _, _ => .fail


theorem tf_sound : Sound Try.prog cod 81 s_tf := sound_runs (cfg := C_aout) L_aout_ok mixed Try.func81 rfl rfl _ fun args H r news hg b0 hb => by
  unfold s_tf at hg
  split at hg
  · skip
    simp only [T.gives, T.wp, Prod.mk.injEq] at hg
    obtain ⟨q0, rfl, rfl⟩ := hg
    exact tf_run _ _ _ _ _ _ b0 hb (by assumption)
  · exact hg.elim

noncomputable def L_tf : Sums cod := (81, .p s_tf) :: L_aout
noncomputable def C_tf : Cfg cod := mkC L_tf

theorem L_tf_ok : Snd Try.prog cod L_tf := .cons tf_sound L_aout_ok



def cuts_tc : Cuts := []

theorem tc_t0 (sq : Int) (rad : Int) (hg : Int) (bd : Int) (lat ver : Int) : symF C_tf cuts_tc Try.f80.results.toList 1 400 [.code (codeOf Try.f80)] ⟨argsS Try.f80 [.c (.int .i64 sq), .c (.int .i64 rad), .c (.int .i64 hg), .c (.int .i64 bd), .c (.ptr 0 0 0)], ([.rblk [.int .i64 lat, .int .i64 ver]] : Heap cod)⟩ =
.need (i64ok (lat - rad)) (
 cond (decide (0 < lat - rad)) (
 .need (i64ok ((lat - rad) * (lat - rad))) (
 cond (decide (sq < (lat - rad) * (lat - rad))) (
  .need (i64ok (ver - bd)) (
  .ret (.fin (.c (.bool (decide (hg < ver - bd)))) []))) (
  .ret (.fin (.c (.bool false)) [])))) (
 .ret (.fin (.c (.bool false)) []))) := by kernel_rfl



theorem tc_run (sq : Int) (rad : Int) (hg : Int) (bd : Int) (lat ver : Int) (b0 : Base) (hb : b0.n = 1) (h0 : F.b9 lat ∧ F.b9 ver ∧ F.b9 rad ∧ F.b9 bd) : Sym.Runs Try.prog b0 [.code (codeOf Try.f80)] ⟨argsS Try.f80 [.c (.int .i64 sq), .c (.int .i64 rad), .c (.int .i64 hg), .c (.int .i64 bd), .c (.ptr 0 0 0)], ([.rblk [.int .i64 lat, .int .i64 ver]] : Heap cod)⟩ (Sym.Ends Try.prog Try.f80 1 (.c (.bool (F.tstC sq rad hg bd lat ver))) []) := by
  refine Runs.go (cfg := C_tf) L_tf_ok mixed cuts_tc 400 hb (tc_t0 sq rad hg bd lat ver) ?_
  obtain ⟨h1, h2, h3, h4⟩ := h0
  unfold F.b9 at *
  have k1 := sq_bd (x := lat - rad) (a := 2000000000) (by omega)
  have g1 : i64ok (lat - rad) := by unfold i64ok; omega
  have g2 : i64ok ((lat - rad) * (lat - rad)) := by unfold i64ok; omega
  have g3 : i64ok (ver - bd) := by unfold i64ok; omega
  unfold F.tstC
  simp only [T.wp, T.wp_cond, Aft, Int.ofNat_eq_natCast, decide_eq_true_eq, and_true, true_and, Nat.zero_add, Bool.not_eq_true', decide_eq_false_iff_not, g1, g2, g3]
  clear h1 h2 h3 h4 k1 g1 g2 g3
  generalize (lat - rad) * (lat - rad) = q
  (repeat' split) <;> simp_all <;> omega



noncomputable def s_tc : Summ cod := fun args H => match args, H with
  | [.c (.int .i64 sq), .c (.int .i64 rad), .c (.int .i64 hg), .c (.int .i64 bd), .c (.ptr 0 0 0)], [.rblk [.int .i64 lat, .int .i64 ver]] => .need ((F.b9 lat ∧ F.b9 ver ∧ F.b9 rad ∧ F.b9 bd)) (.ret (.c (.bool (F.tstC sq rad hg bd lat ver)), []))
  | _, _ => .fail


theorem tc_sound : Sound Try.prog cod 80 s_tc := sound_runs (cfg := C_tf) L_tf_ok mixed Try.func80 rfl rfl _ fun args H r news hg b0 hb => by
  unfold s_tc at hg
  split at hg
  · skip
    simp only [T.gives, T.wp, Prod.mk.injEq] at hg
    obtain ⟨q0, rfl, rfl⟩ := hg
    exact tc_run _ _ _ _ _ _ b0 hb (by assumption)
  · exact hg.elim

noncomputable def L_tc : Sums cod := (80, .p s_tc) :: L_tf
noncomputable def C_tc : Cfg cod := mkC L_tc

theorem L_tc_ok : Snd Try.prog cod L_tc := .cons tc_sound L_tf_ok



def cuts_srF : Cuts := [(12, [20, 6, 8, 7, 19, 5, 4, 3], 4)]

theorem srF_t0 (lat ver : Int) (sec : Int) (acc : Int) (cl : Int) (la ve : Int) (i st t x y sx sy h r ra c hi mi sl lt lx ly lh lc le i2 st2 t2 x2 y2 sx2 sy2 h2 r2 ra2 c2 hi2 mi2 sl2 lt2 lx2 ly2 lh2 lc2 le2 : Int) : symF C_tc cuts_srF Try.f79.results.toList 1 400 [.code (codeOf Try.f79)] ⟨argsS Try.f79 [.agg [.int .i64 i, .int .i64 st, .int .i64 t, .int .i64 x, .int .i64 y, .int .i64 sx, .int .i64 sy, .int .i64 h, .int .i64 r, .int .i64 ra, .int .i64 c, .int .i64 hi, .int .i64 mi, .int .i64 sl, .int .i64 lt, .int .i64 lx, .int .i64 ly, .int .i64 lh, .int .i64 lc, .int .i64 le], .agg [.int .i64 i2, .int .i64 st2, .int .i64 t2, .int .i64 x2, .int .i64 y2, .int .i64 sx2, .int .i64 sy2, .int .i64 h2, .int .i64 r2, .int .i64 ra2, .int .i64 c2, .int .i64 hi2, .int .i64 mi2, .int .i64 sl2, .int .i64 lt2, .int .i64 lx2, .int .i64 ly2, .int .i64 lh2, .int .i64 lc2, .int .i64 le2], .agg [.int .i64 lat, .int .i64 ver], .c (.int .i64 sec), .c (.int .i64 acc), .c (.int .i64 cl), .c (.fn 81 [(0, 0, 0)])], ([.rblk [.int .i64 la, .int .i64 ve]] : Heap cod)⟩ =
 cond (!decide (F.trackE i st t x y sx sy h r ra c hi mi sl lt lx ly lh lc le = 0)) (
 .ret (.fin (.tup [.c (.int .i64 0), .c (.int .i64 (F.trackE i st t x y sx sy h r ra c hi mi sl lt lx ly lh lc le))]) [])) (
 .need (i64ok (0 + 1)) (
 cond (!decide (F.trackE i2 st2 t2 x2 y2 sx2 sy2 h2 r2 ra2 c2 hi2 mi2 sl2 lt2 lx2 ly2 lh2 lc2 le2 = 0)) (
  .ret (.fin (.tup [.c (.int .i64 0), .c (.int .i64 (F.trackE i2 st2 t2 x2 y2 sx2 sy2 h2 r2 ra2 c2 hi2 mi2 sl2 lt2 lx2 ly2 lh2 lc2 le2))]) [])) (
  .need (i64ok (0 + 1 + 1)) (
  cond (F.aout lat 1000000) (
   .ret (.fin (.tup [.c (.int .i64 0), .c (.int .i64 4)]) [])) (
   cond (F.aout ver 60000) (
    .ret (.fin (.tup [.c (.int .i64 0), .c (.int .i64 4)]) [])) (
    cond (F.aout sec 300) (
     .ret (.fin (.tup [.c (.int .i64 0), .c (.int .i64 4)]) [])) (
     cond (F.aout acc 20) (
      .ret (.fin (.tup [.c (.int .i64 0), .c (.int .i64 4)]) [])) (
      cond (F.aout cl 200) (
       .ret (.fin (.tup [.c (.int .i64 0), .c (.int .i64 4)]) [])) (
       .ret (.cut (cutAt Try.f79 12) ⟨tmG 121 [(3, .c (.int .i64 sec)), (0, .c (.int .i64 acc)), (0, .c (.int .i64 cl)), (0, .c (.fn 81 [(0, 0, 0)])), (0, .c (.ptr 1 0 0)), (0, .c (.ptr 2 0 0)), (10, .c (.int .i64 (max t t2))), (0, .c (.int .i64 0))], [.rblk [.int .i64 la, .int .i64 ve], .blk [.int .i64 i, .int .i64 st, .int .i64 t, .int .i64 x, .int .i64 y, .int .i64 sx, .int .i64 sy, .int .i64 h, .int .i64 r, .int .i64 ra, .int .i64 c, .int .i64 hi, .int .i64 mi, .int .i64 sl, .int .i64 lt, .int .i64 lx, .int .i64 ly, .int .i64 lh, .int .i64 lc, .int .i64 le] 29, .blk [.int .i64 i2, .int .i64 st2, .int .i64 t2, .int .i64 x2, .int .i64 y2, .int .i64 sx2, .int .i64 sy2, .int .i64 h2, .int .i64 r2, .int .i64 ra2, .int .i64 c2, .int .i64 hi2, .int .i64 mi2, .int .i64 sl2, .int .i64 lt2, .int .i64 lx2, .int .i64 ly2, .int .i64 lh2, .int .i64 lc2, .int .i64 le2] 29, .blk [.int .i64 lat, .int .i64 ver] 81]⟩)))))))))) := by kernel_rfl


noncomputable def st_srF_12 (lat ver : Int) (sec : Int) (acc : Int) (cl : Int) (la ve : Int) (i st t x y sx sy h r ra c hi mi sl lt lx ly lh lc le i2 st2 t2 x2 y2 sx2 sy2 h2 r2 ra2 c2 hi2 mi2 sl2 lt2 lx2 ly2 lh2 lc2 le2 : Int) (k : Int) : St cod := ⟨tmG 121 [(3, .c (.int .i64 sec)), (0, .c (.int .i64 acc)), (0, .c (.int .i64 cl)), (0, .c (.fn 81 [(0, 0, 0)])), (0, .c (.ptr 1 0 0)), (0, .c (.ptr 2 0 0)), (10, .c (.int .i64 (max t t2))), (0, .c (.int .i64 k))], [.rblk [.int .i64 la, .int .i64 ve], .blk [.int .i64 i, .int .i64 st, .int .i64 t, .int .i64 x, .int .i64 y, .int .i64 sx, .int .i64 sy, .int .i64 h, .int .i64 r, .int .i64 ra, .int .i64 c, .int .i64 hi, .int .i64 mi, .int .i64 sl, .int .i64 lt, .int .i64 lx, .int .i64 ly, .int .i64 lh, .int .i64 lc, .int .i64 le] 29, .blk [.int .i64 i2, .int .i64 st2, .int .i64 t2, .int .i64 x2, .int .i64 y2, .int .i64 sx2, .int .i64 sy2, .int .i64 h2, .int .i64 r2, .int .i64 ra2, .int .i64 c2, .int .i64 hi2, .int .i64 mi2, .int .i64 sl2, .int .i64 lt2, .int .i64 lx2, .int .i64 ly2, .int .i64 lh2, .int .i64 lc2, .int .i64 le2] 29, .blk [.int .i64 lat, .int .i64 ver] 81]⟩


theorem srF_t12 (lat ver : Int) (sec : Int) (acc : Int) (cl : Int) (la ve : Int) (i st t x y sx sy h r ra c hi mi sl lt lx ly lh lc le i2 st2 t2 x2 y2 sx2 sy2 h2 r2 ra2 c2 hi2 mi2 sl2 lt2 lx2 ly2 lh2 lc2 le2 : Int) (k : Int) : symF C_tc cuts_srF Try.f79.results.toList 1 400 (cutAt Try.f79 12) (st_srF_12 lat ver sec acc cl la ve i st t x y sx sy h r ra c hi mi sl lt lx ly lh lc le i2 st2 t2 x2 y2 sx2 sy2 h2 r2 ra2 c2 hi2 mi2 sl2 lt2 lx2 ly2 lh2 lc2 le2 k) =
 cond (decide (k ≤ sec)) (
 .need (i64ok (max t t2 + k)) (
 .need (i64ok (max t t2 + k)) (
 cond (!decide (F.predE i st t x y sx sy h r ra c hi mi sl lt lx ly lh lc le (max t t2 + k) acc = 0)) (
  .ret (.fin (.tup [.c (.int .i64 0), .c (.int .i64 12)]) [])) (
  cond (!decide (F.predE i2 st2 t2 x2 y2 sx2 sy2 h2 r2 ra2 c2 hi2 mi2 sl2 lt2 lx2 ly2 lh2 lc2 le2 (max t t2 + k) acc = 0)) (
   .ret (.fin (.tup [.c (.int .i64 0), .c (.int .i64 12)]) [])) (
   .need (i64ok (max t t2 + k)) (
   .need (i64ok (2 * (max t t2 + k))) (
   .need (i64ok (2 * (max t t2 + k) - t)) (
   .need (i64ok (2 * (max t t2 + k) - t - t2)) (
   .need (i64ok (cl * (2 * (max t t2 + k) - t - t2))) (
   .need (i64ok (200 + cl * (2 * (max t t2 + k) - t - t2))) (
   .need ((F.b9   (F.z (F.predE i st t x y sx sy h r ra c hi mi sl lt lx ly lh lc le (max t t2 + k) acc) (F.px x sx (max t t2 + k - t))) ∧ (F.b9   (F.z (F.predE i st t x y sx sy h r ra c hi mi sl lt lx ly lh lc le (max t t2 + k) acc) (F.px y sy (max t t2 + k - t))) ∧ (F.b9   (F.z (F.predE i2 st2 t2 x2 y2 sx2 sy2 h2 r2 ra2 c2 hi2 mi2 sl2 lt2 lx2 ly2 lh2 lc2 le2 (max t t2 + k) acc)     (F.px x2 sx2 (max t t2 + k - t2))) ∧ F.b9   (F.z (F.predE i2 st2 t2 x2 y2 sx2 sy2 h2 r2 ra2 c2 hi2 mi2 sl2 lt2 lx2 ly2 lh2 lc2 le2 (max t t2 + k) acc)     (F.px y2 sy2 (max t t2 + k - t2))))))) (
   .need (i64ok   (F.z (F.predE i st t x y sx sy h r ra c hi mi sl lt lx ly lh lc le (max t t2 + k) acc)       (F.pr ra sl acc (max t t2 + k - t)) +     F.z (F.predE i2 st2 t2 x2 y2 sx2 sy2 h2 r2 ra2 c2 hi2 mi2 sl2 lt2 lx2 ly2 lh2 lc2 le2 (max t t2 + k) acc)       (F.pr ra2 sl2 acc (max t t2 + k - t2)))) (
   .need (i64ok   (F.z (F.predE i st t x y sx sy h r ra c hi mi sl lt lx ly lh lc le (max t t2 + k) acc) (F.ph h r (max t t2 + k - t)) -     F.z (F.predE i2 st2 t2 x2 y2 sx2 sy2 h2 r2 ra2 c2 hi2 mi2 sl2 lt2 lx2 ly2 lh2 lc2 le2 (max t t2 + k) acc)       (F.ph h2 r2 (max t t2 + k - t2)))) (
   .need (i64ok   (F.z (F.predE i2 st2 t2 x2 y2 sx2 sy2 h2 r2 ra2 c2 hi2 mi2 sl2 lt2 lx2 ly2 lh2 lc2 le2 (max t t2 + k) acc)       (F.ph h2 r2 (max t t2 + k - t2)) -     F.z (F.predE i st t x y sx sy h r ra c hi mi sl lt lx ly lh lc le (max t t2 + k) acc) (F.ph h r (max t t2 + k - t)))) (
   .need ((F.b9 la ∧ (F.b9 ve ∧ (F.b9   (F.z (F.predE i st t x y sx sy h r ra c hi mi sl lt lx ly lh lc le (max t t2 + k) acc)       (F.pr ra sl acc (max t t2 + k - t)) +     F.z (F.predE i2 st2 t2 x2 y2 sx2 sy2 h2 r2 ra2 c2 hi2 mi2 sl2 lt2 lx2 ly2 lh2 lc2 le2 (max t t2 + k) acc)       (F.pr ra2 sl2 acc (max t t2 + k - t2))) ∧ F.b9 (200 + cl * (2 * (max t t2 + k) - t - t2)))))) (
   cond (F.tstF   (F.far     (F.z (F.predE i st t x y sx sy h r ra c hi mi sl lt lx ly lh lc le (max t t2 + k) acc)       (F.px x sx (max t t2 + k - t)))     (F.z (F.predE i st t x y sx sy h r ra c hi mi sl lt lx ly lh lc le (max t t2 + k) acc)       (F.px y sy (max t t2 + k - t)))     (F.z (F.predE i2 st2 t2 x2 y2 sx2 sy2 h2 r2 ra2 c2 hi2 mi2 sl2 lt2 lx2 ly2 lh2 lc2 le2 (max t t2 + k) acc)       (F.px x2 sx2 (max t t2 + k - t2)))     (F.z (F.predE i2 st2 t2 x2 y2 sx2 sy2 h2 r2 ra2 c2 hi2 mi2 sl2 lt2 lx2 ly2 lh2 lc2 le2 (max t t2 + k) acc)       (F.px y2 sy2 (max t t2 + k - t2))))   (F.z (F.predE i st t x y sx sy h r ra c hi mi sl lt lx ly lh lc le (max t t2 + k) acc)       (F.pr ra sl acc (max t t2 + k - t)) +     F.z (F.predE i2 st2 t2 x2 y2 sx2 sy2 h2 r2 ra2 c2 hi2 mi2 sl2 lt2 lx2 ly2 lh2 lc2 le2 (max t t2 + k) acc)       (F.pr ra2 sl2 acc (max t t2 + k - t2)))   (max     (F.z (F.predE i st t x y sx sy h r ra c hi mi sl lt lx ly lh lc le (max t t2 + k) acc)         (F.ph h r (max t t2 + k - t)) -       F.z (F.predE i2 st2 t2 x2 y2 sx2 sy2 h2 r2 ra2 c2 hi2 mi2 sl2 lt2 lx2 ly2 lh2 lc2 le2 (max t t2 + k) acc)         (F.ph h2 r2 (max t t2 + k - t2)))     (F.z (F.predE i2 st2 t2 x2 y2 sx2 sy2 h2 r2 ra2 c2 hi2 mi2 sl2 lt2 lx2 ly2 lh2 lc2 le2 (max t t2 + k) acc)         (F.ph h2 r2 (max t t2 + k - t2)) -       F.z (F.predE i st t x y sx sy h r ra c hi mi sl lt lx ly lh lc le (max t t2 + k) acc)         (F.ph h r (max t t2 + k - t))))   (200 + cl * (2 * (max t t2 + k) - t - t2)) la ve) (
    .ret (.fin (.tup [.c (.int .i64 k), .c (.int .i64 0)]) [])) (
    .need (i64ok (k + 1)) (
    .ret (.cut (cutAt Try.f79 12) ⟨tmG 121 [(3, .c (.int .i64 sec)), (0, .c (.int .i64 acc)), (0, .c (.int .i64 cl)), (0, .c (.fn 81 [(0, 0, 0)])), (0, .c (.ptr 1 0 0)), (0, .c (.ptr 2 0 0)), (10, .c (.int .i64 (max t t2))), (0, .c (.int .i64 (k + 1)))], [.rblk [.int .i64 la, .int .i64 ve], .blk [.int .i64 i, .int .i64 st, .int .i64 t, .int .i64 x, .int .i64 y, .int .i64 sx, .int .i64 sy, .int .i64 h, .int .i64 r, .int .i64 ra, .int .i64 c, .int .i64 hi, .int .i64 mi, .int .i64 sl, .int .i64 lt, .int .i64 lx, .int .i64 ly, .int .i64 lh, .int .i64 lc, .int .i64 le] 29, .blk [.int .i64 i2, .int .i64 st2, .int .i64 t2, .int .i64 x2, .int .i64 y2, .int .i64 sx2, .int .i64 sy2, .int .i64 h2, .int .i64 r2, .int .i64 ra2, .int .i64 c2, .int .i64 hi2, .int .i64 mi2, .int .i64 sl2, .int .i64 lt2, .int .i64 lx2, .int .i64 ly2, .int .i64 lh2, .int .i64 lc2, .int .i64 le2] 29, .blk [.int .i64 lat, .int .i64 ver] 81]⟩))))))))))))))))))) (
 .ret (.fin (.tup [.c (.int .i64 0), .c (.int .i64 8)]) [])) := by kernel_rfl



theorem predE_zero {i st t x y sx sy h r ra c hi mi sl lt lx ly lh lc le n a : Int} (e : F.predE i st t x y sx sy h r ra c hi mi sl lt lx ly lh lc le n a = 0) : (0 ≤ n ∧ n ≤ 200000) ∧ (0 ≤ n - t ∧ n - t ≤ 600) ∧ (-1000000 ≤ F.px x sx (n - t) ∧ F.px x sx (n - t) ≤ 1000000) ∧ (-1000000 ≤ F.px y sy (n - t) ∧ F.px y sy (n - t) ≤ 1000000) ∧ (0 ≤ F.ph h r (n - t) ∧ F.ph h r (n - t) ≤ 60000) ∧ (0 ≤ F.pr ra sl a (n - t) ∧ F.pr ra sl a (n - t) ≤ 4000000) := by
  unfold F.predE at e
  split at e
  · split at e
    · rename_i hn
      split at e
      · rename_i hd
        split at e
        · rename_i h2
          obtain ⟨k1, k2, k3, k4, k5, _⟩ := trackE_zero h2
          simp only [Bool.and_eq_true] at hn
          exact ⟨inb_true.1 hn.1, inb_true.1 hd, k2, k3, k4, k5⟩
        · omega
      · omega
    · omega
  · contradiction
theorem aout_no {n hi : Int} (h : F.aout n hi = false) : 0 ≤ n ∧ n ≤ hi := by
  simp only [F.aout, Bool.or_eq_false_iff, decide_eq_false_iff_not] at h
  omega
theorem hit_go {f : Int → Int → Int → Int → Int → Int → Bool} {i st t x y sx sy h r ra c hi mi sl lt lx ly lh lc le i2 st2 t2 x2 y2 sx2 sy2 h2 r2 ra2 c2 hi2 mi2 sl2 lt2 lx2 ly2 lh2 lc2 le2 lat ver acc cl n : Int} (e1 : F.predE i st t x y sx sy h r ra c hi mi sl lt lx ly lh lc le n acc = 0) (e2 : F.predE i2 st2 t2 x2 y2 sx2 sy2 h2 r2 ra2 c2 hi2 mi2 sl2 lt2 lx2 ly2 lh2 lc2 le2 n acc = 0) : F.hit f i st t x y sx sy h r ra c hi mi sl lt lx ly lh lc le i2 st2 t2 x2 y2 sx2 sy2 h2 r2 ra2 c2 hi2 mi2 sl2 lt2 lx2 ly2 lh2 lc2 le2 lat ver acc cl n = if f (F.far (F.px x sx (n - t)) (F.px y sy (n - t)) (F.px x2 sx2 (n - t2)) (F.px y2 sy2 (n - t2))) (F.pr ra sl acc (n - t) + F.pr ra2 sl2 acc (n - t2)) (max (F.ph h r (n - t) - F.ph h2 r2 (n - t2)) (F.ph h2 r2 (n - t2) - F.ph h r (n - t))) (200 + cl * (2 * n - t - t2)) lat ver then 2 else 0 := by
  unfold F.hit
  rw [if_pos ⟨e1, e2⟩]
theorem hit_bad {f : Int → Int → Int → Int → Int → Int → Bool} {i st t x y sx sy h r ra c hi mi sl lt lx ly lh lc le i2 st2 t2 x2 y2 sx2 sy2 h2 r2 ra2 c2 hi2 mi2 sl2 lt2 lx2 ly2 lh2 lc2 le2 lat ver acc cl n : Int} (e : F.predE i st t x y sx sy h r ra c hi mi sl lt lx ly lh lc le n acc ≠ 0 ∨ F.predE i2 st2 t2 x2 y2 sx2 sy2 h2 r2 ra2 c2 hi2 mi2 sl2 lt2 lx2 ly2 lh2 lc2 le2 n acc ≠ 0) : F.hit f i st t x y sx sy h r ra c hi mi sl lt lx ly lh lc le i2 st2 t2 x2 y2 sx2 sy2 h2 r2 ra2 c2 hi2 mi2 sl2 lt2 lx2 ly2 lh2 lc2 le2 lat ver acc cl n = 1 := by
  unfold F.hit
  rw [if_neg]
  rintro ⟨e1, e2⟩
  simp_all
theorem srF_loop (i st t x y sx sy h r ra c hi mi sl lt lx ly lh lc le i2 st2 t2 x2 y2 sx2 sy2 h2 r2 ra2 c2 hi2 mi2 sl2 lt2 lx2 ly2 lh2 lc2 le2 lat ver sec acc cl : Int) (hs : 0 ≤ sec ∧ sec ≤ 300) (hc : 0 ≤ cl ∧ cl ≤ 200) (hl : 0 ≤ lat ∧ lat ≤ 1000000) (hv : 0 ≤ ver ∧ ver ≤ 60000) (ht : 0 ≤ t ∧ t ≤ 200000) (ht2 : 0 ≤ t2 ∧ t2 ≤ 200000) (b0 : Base) (hb0 : b0.n = 1) (R : SV) : ∀ (m : Nat) (k : Int), 0 ≤ k → k + m = sec + 1 → R = resS (F.sear (F.hit F.tstF i st t x y sx sy h r ra c hi mi sl lt lx ly lh lc le i2 st2 t2 x2 y2 sx2 sy2 h2 r2 ra2 c2 hi2 mi2 sl2 lt2 lx2 ly2 lh2 lc2 le2 lat ver acc cl) (max t t2) k m) →
    Sym.Runs Try.prog b0 (cutAt Try.f79 12) (st_srF_12 lat ver sec acc cl lat ver i st t x y sx sy h r ra c hi mi sl lt lx ly lh lc le i2 st2 t2 x2 y2 sx2 sy2 h2 r2 ra2 c2 hi2 mi2 sl2 lt2 lx2 ly2 lh2 lc2 le2 k) (Sym.Ends Try.prog Try.f79 1 R []) := by
  intro m
  induction m with
  | zero =>
    intro k h0 hm hR
    refine Runs.go (cfg := C_tc) L_tc_ok mixed cuts_srF 400 hb0 (srF_t12 lat ver sec acc cl lat ver i st t x y sx sy h r ra c hi mi sl lt lx ly lh lc le i2 st2 t2 x2 y2 sx2 sy2 h2 r2 ra2 c2 hi2 mi2 sl2 lt2 lx2 ly2 lh2 lc2 le2 k) ?_
    have h1 : ¬ k ≤ sec := by omega
    simp only [T.wp, T.wp_cond, Aft, Int.ofNat_eq_natCast, decide_eq_true_eq, and_true, true_and, Nat.zero_add, Bool.not_eq_true', decide_eq_false_iff_not, h1, if_false, hR]
    rfl
  | succ m ih =>
    intro k h0 hm hR
    have nx := ih (k + 1) (by omega) (by omega)
    have h1 : k ≤ sec := by omega
    simp only [F.sear] at hR
    refine Runs.go (cfg := C_tc) L_tc_ok mixed cuts_srF 400 hb0 (srF_t12 lat ver sec acc cl lat ver i st t x y sx sy h r ra c hi mi sl lt lx ly lh lc le i2 st2 t2 x2 y2 sx2 sy2 h2 r2 ra2 c2 hi2 mi2 sl2 lt2 lx2 ly2 lh2 lc2 le2 k) ?_
    by_cases e1 : F.predE i st t x y sx sy h r ra c hi mi sl lt lx ly lh lc le (max t t2 + k) acc = 0
    · by_cases e2 : F.predE i2 st2 t2 x2 y2 sx2 sy2 h2 r2 ra2 c2 hi2 mi2 sl2 lt2 lx2 ly2 lh2 lc2 le2 (max t t2 + k) acc = 0
      · obtain ⟨n1, d1, x1, y1, g1, r1⟩ := predE_zero e1
        obtain ⟨_, d2, x2', y2', g2, r2'⟩ := predE_zero e2
        rw [hit_go e1 e2] at hR
        have u1 := mul_bd (x := cl) (y := 2 * (max t t2 + k) - t - t2) (a := 200) (b := 1200) (by omega) (by omega)
        simp only [T.wp, T.wp_cond, Aft, Int.ofNat_eq_natCast, decide_eq_true_eq, and_true, true_and, Nat.zero_add, Bool.not_eq_true', decide_eq_false_iff_not, h1, if_true, e1, e2, F.z, not_true_eq_false, if_false]
        generalize hw : F.tstF _ _ _ _ _ _ = v at *
        clear hw ih e1 e2
        generalize F.px x sx (max t t2 + k - t) = z1 at *
        generalize F.px y sy (max t t2 + k - t) = z2 at *
        generalize F.px x2 sx2 (max t t2 + k - t2) = z3 at *
        generalize F.px y2 sy2 (max t t2 + k - t2) = z4 at *
        generalize F.pr ra sl acc (max t t2 + k - t) = z5 at *
        generalize F.pr ra2 sl2 acc (max t t2 + k - t2) = z6 at *
        generalize F.ph h r (max t t2 + k - t) = z7 at *
        generalize F.ph h2 r2 (max t t2 + k - t2) = z8 at *
        generalize cl * (2 * (max t t2 + k) - t - t2) = z9 at *
        unfold i64ok F.b9
        refine ⟨by omega, by omega, by omega, by omega, by omega, by omega, by omega, by omega, ⟨by omega, by omega, by omega, by omega⟩, by omega, by omega, by omega, ⟨by omega, by omega, by omega, by omega⟩, ?_⟩
        cases v
        · simp only [Bool.false_eq_true, if_false, reduceCtorEq] at hR ⊢
          exact ⟨by omega, nx (by simpa using hR)⟩
        · simp only [if_true] at hR ⊢
          simpa [resS] using hR.symm
      · rw [hit_bad (.inr e2), if_pos rfl] at hR
        simp only [T.wp, T.wp_cond, Aft, Int.ofNat_eq_natCast, decide_eq_true_eq, and_true, true_and, Nat.zero_add, Bool.not_eq_true', decide_eq_false_iff_not, h1, if_true, e1, e2, not_true_eq_false, if_false, not_false_eq_true, hR]
        unfold i64ok
        exact ⟨by omega, by omega, rfl⟩
    · rw [hit_bad (.inl e1), if_pos rfl] at hR
      simp only [T.wp, T.wp_cond, Aft, Int.ofNat_eq_natCast, decide_eq_true_eq, and_true, true_and, Nat.zero_add, Bool.not_eq_true', decide_eq_false_iff_not, h1, if_true, e1, not_false_eq_true, hR]
      unfold i64ok
      exact ⟨by omega, by omega, rfl⟩
theorem srF_run (lat ver : Int) (sec : Int) (acc : Int) (cl : Int) (la ve : Int) (i st t x y sx sy h r ra c hi mi sl lt lx ly lh lc le i2 st2 t2 x2 y2 sx2 sy2 h2 r2 ra2 c2 hi2 mi2 sl2 lt2 lx2 ly2 lh2 lc2 le2 : Int) (b0 : Base) (hb : b0.n = 1) (h0 : la = lat ∧ ve = ver) : Sym.Runs Try.prog b0 [.code (codeOf Try.f79)] ⟨argsS Try.f79 [.agg [.int .i64 i, .int .i64 st, .int .i64 t, .int .i64 x, .int .i64 y, .int .i64 sx, .int .i64 sy, .int .i64 h, .int .i64 r, .int .i64 ra, .int .i64 c, .int .i64 hi, .int .i64 mi, .int .i64 sl, .int .i64 lt, .int .i64 lx, .int .i64 ly, .int .i64 lh, .int .i64 lc, .int .i64 le], .agg [.int .i64 i2, .int .i64 st2, .int .i64 t2, .int .i64 x2, .int .i64 y2, .int .i64 sx2, .int .i64 sy2, .int .i64 h2, .int .i64 r2, .int .i64 ra2, .int .i64 c2, .int .i64 hi2, .int .i64 mi2, .int .i64 sl2, .int .i64 lt2, .int .i64 lx2, .int .i64 ly2, .int .i64 lh2, .int .i64 lc2, .int .i64 le2], .agg [.int .i64 lat, .int .i64 ver], .c (.int .i64 sec), .c (.int .i64 acc), .c (.int .i64 cl), .c (.fn 81 [(0, 0, 0)])], ([.rblk [.int .i64 la, .int .i64 ve]] : Heap cod)⟩ (Sym.Ends Try.prog Try.f79 1 (.tup [.c (.int .i64 (F.sea (F.alE i st t x y sx sy h r ra c hi mi sl lt lx ly lh lc le i2 st2 t2 x2 y2 sx2 sy2 h2 r2 ra2 c2 hi2 mi2 sl2 lt2 lx2 ly2 lh2 lc2 le2 lat ver sec acc cl) (F.hit F.tstF i st t x y sx sy h r ra c hi mi sl lt lx ly lh lc le i2 st2 t2 x2 y2 sx2 sy2 h2 r2 ra2 c2 hi2 mi2 sl2 lt2 lx2 ly2 lh2 lc2 le2 lat ver acc cl) (max t t2) sec).1), .c (.int .i64 (F.sea (F.alE i st t x y sx sy h r ra c hi mi sl lt lx ly lh lc le i2 st2 t2 x2 y2 sx2 sy2 h2 r2 ra2 c2 hi2 mi2 sl2 lt2 lx2 ly2 lh2 lc2 le2 lat ver sec acc cl) (F.hit F.tstF i st t x y sx sy h r ra c hi mi sl lt lx ly lh lc le i2 st2 t2 x2 y2 sx2 sy2 h2 r2 ra2 c2 hi2 mi2 sl2 lt2 lx2 ly2 lh2 lc2 le2 lat ver acc cl) (max t t2) sec).2)]) []) := by
  obtain ⟨rfl, rfl⟩ := h0
  refine Runs.go (cfg := C_tc) L_tc_ok mixed cuts_srF 400 hb (srF_t0 la ve sec acc cl la ve i st t x y sx sy h r ra c hi mi sl lt lx ly lh lc le i2 st2 t2 x2 y2 sx2 sy2 h2 r2 ra2 c2 hi2 mi2 sl2 lt2 lx2 ly2 lh2 lc2 le2) ?_
  unfold F.sea F.alE
  by_cases a1 : F.trackE i st t x y sx sy h r ra c hi mi sl lt lx ly lh lc le = 0
  · by_cases a2 : F.trackE i2 st2 t2 x2 y2 sx2 sy2 h2 r2 ra2 c2 hi2 mi2 sl2 lt2 lx2 ly2 lh2 lc2 le2 = 0
    · cases a3 : F.aout la 1000000
      · cases a4 : F.aout ve 60000
        · cases a5 : F.aout sec 300
          · cases a6 : F.aout acc 20
            · cases a7 : F.aout cl 200
              · have b1 := (trackE_zero a1).1
                have b2 := (trackE_zero a2).1
                have b3 := aout_no a3
                have b4 := aout_no a4
                have b5 := aout_no a5
                have b7 := aout_no a7
                have b8 : i64ok (0 + 1) ∧ i64ok (0 + 1 + 1) := ⟨by unfold i64ok; omega, by unfold i64ok; omega⟩
                simp only [T.wp, T.wp_cond, Aft, Int.ofNat_eq_natCast, decide_eq_true_eq, and_true, true_and, Nat.zero_add, Bool.not_eq_true', decide_eq_false_iff_not, a1, a2, b8, Bool.or_self, Bool.false_eq_true, not_true_eq_false, if_false, if_true]
                exact srF_loop i st t x y sx sy h r ra c hi mi sl lt lx ly lh lc le i2 st2 t2 x2 y2 sx2 sy2 h2 r2 ra2 c2 hi2 mi2 sl2 lt2 lx2 ly2 lh2 lc2 le2 la ve sec acc cl b5 b7 b3 b4 b1 b2 b0 hb _ (sec + 1).toNat 0 (by omega) (by omega) rfl
              · simp [T.wp, Aft, a1, a2, i64ok]
            · simp [T.wp, Aft, a1, a2, i64ok]
          · simp [T.wp, Aft, a1, a2, i64ok]
        · simp [T.wp, Aft, a1, a2, i64ok]
      · simp [T.wp, Aft, a1, a2, i64ok]
    · simp [T.wp, Aft, a1, a2, i64ok]
  · simp [T.wp, Aft, a1]



noncomputable def s_srF : Summ cod := fun args H => match args, H with
  | [.agg [.int .i64 i, .int .i64 st, .int .i64 t, .int .i64 x, .int .i64 y, .int .i64 sx, .int .i64 sy, .int .i64 h, .int .i64 r, .int .i64 ra, .int .i64 c, .int .i64 hi, .int .i64 mi, .int .i64 sl, .int .i64 lt, .int .i64 lx, .int .i64 ly, .int .i64 lh, .int .i64 lc, .int .i64 le], .agg [.int .i64 i2, .int .i64 st2, .int .i64 t2, .int .i64 x2, .int .i64 y2, .int .i64 sx2, .int .i64 sy2, .int .i64 h2, .int .i64 r2, .int .i64 ra2, .int .i64 c2, .int .i64 hi2, .int .i64 mi2, .int .i64 sl2, .int .i64 lt2, .int .i64 lx2, .int .i64 ly2, .int .i64 lh2, .int .i64 lc2, .int .i64 le2], .agg [.int .i64 lat, .int .i64 ver], .c (.int .i64 sec), .c (.int .i64 acc), .c (.int .i64 cl), .c (.fn 81 [(0, 0, 0)])], [.rblk [.int .i64 la, .int .i64 ve]] => .need ((la = lat ∧ ve = ver)) (.ret (.tup [.c (.int .i64 (F.sea (F.alE i st t x y sx sy h r ra c hi mi sl lt lx ly lh lc le i2 st2 t2 x2 y2 sx2 sy2 h2 r2 ra2 c2 hi2 mi2 sl2 lt2 lx2 ly2 lh2 lc2 le2 lat ver sec acc cl) (F.hit F.tstF i st t x y sx sy h r ra c hi mi sl lt lx ly lh lc le i2 st2 t2 x2 y2 sx2 sy2 h2 r2 ra2 c2 hi2 mi2 sl2 lt2 lx2 ly2 lh2 lc2 le2 lat ver acc cl) (max t t2) sec).1), .c (.int .i64 (F.sea (F.alE i st t x y sx sy h r ra c hi mi sl lt lx ly lh lc le i2 st2 t2 x2 y2 sx2 sy2 h2 r2 ra2 c2 hi2 mi2 sl2 lt2 lx2 ly2 lh2 lc2 le2 lat ver sec acc cl) (F.hit F.tstF i st t x y sx sy h r ra c hi mi sl lt lx ly lh lc le i2 st2 t2 x2 y2 sx2 sy2 h2 r2 ra2 c2 hi2 mi2 sl2 lt2 lx2 ly2 lh2 lc2 le2 lat ver acc cl) (max t t2) sec).2)], []))
  | _, _ => .fail


theorem srF_sound : Sound Try.prog cod 79 s_srF := sound_runs (cfg := C_tc) L_tc_ok mixed Try.func79 rfl rfl _ fun args H r news hg b0 hb => by
  unfold s_srF at hg
  split at hg
  · skip
    simp only [T.gives, T.wp, Prod.mk.injEq] at hg
    obtain ⟨q0, rfl, rfl⟩ := hg
    exact srF_run _ _ _ _ _ _ _ _ _ _ _ _ _ _ _ _ _ _ _ _ _ _ _ _ _ _ _ _ _ _ _ _ _ _ _ _ _ _ _ _ _ _ _ _ _ _ _ b0 hb (by assumption)
  · exact hg.elim

noncomputable def L_srF : Sums cod := (79, .p s_srF) :: L_tc
noncomputable def C_srF : Cfg cod := mkC L_srF

theorem L_srF_ok : Snd Try.prog cod L_srF := .cons srF_sound L_tc_ok



def cuts_first : Cuts := []

theorem first_t0 (lat ver : Int) (sec : Int) (acc : Int) (cl : Int) (i st t x y sx sy h r ra c hi mi sl lt lx ly lh lc le i2 st2 t2 x2 y2 sx2 sy2 h2 r2 ra2 c2 hi2 mi2 sl2 lt2 lx2 ly2 lh2 lc2 le2 : Int) : symF C_srF cuts_first Try.f49.results.toList 0 400 [.code (codeOf Try.f49)] ⟨argsS Try.f49 [.agg [.int .i64 i, .int .i64 st, .int .i64 t, .int .i64 x, .int .i64 y, .int .i64 sx, .int .i64 sy, .int .i64 h, .int .i64 r, .int .i64 ra, .int .i64 c, .int .i64 hi, .int .i64 mi, .int .i64 sl, .int .i64 lt, .int .i64 lx, .int .i64 ly, .int .i64 lh, .int .i64 lc, .int .i64 le], .agg [.int .i64 i2, .int .i64 st2, .int .i64 t2, .int .i64 x2, .int .i64 y2, .int .i64 sx2, .int .i64 sy2, .int .i64 h2, .int .i64 r2, .int .i64 ra2, .int .i64 c2, .int .i64 hi2, .int .i64 mi2, .int .i64 sl2, .int .i64 lt2, .int .i64 lx2, .int .i64 ly2, .int .i64 lh2, .int .i64 lc2, .int .i64 le2], .agg [.int .i64 lat, .int .i64 ver], .c (.int .i64 sec), .c (.int .i64 acc), .c (.int .i64 cl)], ([] : Heap cod)⟩ =
.need ((lat = lat ∧ ver = ver)) (
.ret (.fin (.tup [.c (.int .i64 ((F.sea     (F.alE i st t x y sx sy h r ra c hi mi sl lt lx ly lh lc le i2 st2 t2 x2 y2 sx2 sy2 h2 r2 ra2 c2 hi2 mi2 sl2 lt2 lx2       ly2 lh2 lc2 le2 lat ver sec acc cl)     (F.hit F.tstF i st t x y sx sy h r ra c hi mi sl lt lx ly lh lc le i2 st2 t2 x2 y2 sx2 sy2 h2 r2 ra2 c2 hi2 mi2 sl2       lt2 lx2 ly2 lh2 lc2 le2 lat ver acc cl)     (max t t2) sec).1)), .c (.int .i64 ((F.sea     (F.alE i st t x y sx sy h r ra c hi mi sl lt lx ly lh lc le i2 st2 t2 x2 y2 sx2 sy2 h2 r2 ra2 c2 hi2 mi2 sl2 lt2 lx2       ly2 lh2 lc2 le2 lat ver sec acc cl)     (F.hit F.tstF i st t x y sx sy h r ra c hi mi sl lt lx ly lh lc le i2 st2 t2 x2 y2 sx2 sy2 h2 r2 ra2 c2 hi2 mi2 sl2       lt2 lx2 ly2 lh2 lc2 le2 lat ver acc cl)     (max t t2) sec).2))]) [])) := by kernel_rfl



theorem first_run (lat ver : Int) (sec : Int) (acc : Int) (cl : Int) (i st t x y sx sy h r ra c hi mi sl lt lx ly lh lc le i2 st2 t2 x2 y2 sx2 sy2 h2 r2 ra2 c2 hi2 mi2 sl2 lt2 lx2 ly2 lh2 lc2 le2 : Int) (b0 : Base) (hb : b0.n = 0)  : Sym.Runs Try.prog b0 [.code (codeOf Try.f49)] ⟨argsS Try.f49 [.agg [.int .i64 i, .int .i64 st, .int .i64 t, .int .i64 x, .int .i64 y, .int .i64 sx, .int .i64 sy, .int .i64 h, .int .i64 r, .int .i64 ra, .int .i64 c, .int .i64 hi, .int .i64 mi, .int .i64 sl, .int .i64 lt, .int .i64 lx, .int .i64 ly, .int .i64 lh, .int .i64 lc, .int .i64 le], .agg [.int .i64 i2, .int .i64 st2, .int .i64 t2, .int .i64 x2, .int .i64 y2, .int .i64 sx2, .int .i64 sy2, .int .i64 h2, .int .i64 r2, .int .i64 ra2, .int .i64 c2, .int .i64 hi2, .int .i64 mi2, .int .i64 sl2, .int .i64 lt2, .int .i64 lx2, .int .i64 ly2, .int .i64 lh2, .int .i64 lc2, .int .i64 le2], .agg [.int .i64 lat, .int .i64 ver], .c (.int .i64 sec), .c (.int .i64 acc), .c (.int .i64 cl)], ([] : Heap cod)⟩ (Sym.Ends Try.prog Try.f49 0 (.tup [.c (.int .i64 (F.sea (F.alE i st t x y sx sy h r ra c hi mi sl lt lx ly lh lc le i2 st2 t2 x2 y2 sx2 sy2 h2 r2 ra2 c2 hi2 mi2 sl2 lt2 lx2 ly2 lh2 lc2 le2 lat ver sec acc cl) (F.hit F.tstF i st t x y sx sy h r ra c hi mi sl lt lx ly lh lc le i2 st2 t2 x2 y2 sx2 sy2 h2 r2 ra2 c2 hi2 mi2 sl2 lt2 lx2 ly2 lh2 lc2 le2 lat ver acc cl) (max t t2) sec).1), .c (.int .i64 (F.sea (F.alE i st t x y sx sy h r ra c hi mi sl lt lx ly lh lc le i2 st2 t2 x2 y2 sx2 sy2 h2 r2 ra2 c2 hi2 mi2 sl2 lt2 lx2 ly2 lh2 lc2 le2 lat ver sec acc cl) (F.hit F.tstF i st t x y sx sy h r ra c hi mi sl lt lx ly lh lc le i2 st2 t2 x2 y2 sx2 sy2 h2 r2 ra2 c2 hi2 mi2 sl2 lt2 lx2 ly2 lh2 lc2 le2 lat ver acc cl) (max t t2) sec).2)]) []) := by
  refine Runs.go (cfg := C_srF) L_srF_ok mixed cuts_first 400 hb (first_t0 lat ver sec acc cl i st t x y sx sy h r ra c hi mi sl lt lx ly lh lc le i2 st2 t2 x2 y2 sx2 sy2 h2 r2 ra2 c2 hi2 mi2 sl2 lt2 lx2 ly2 lh2 lc2 le2) ?_
  simp only [T.wp, T.wp_cond, Aft, Int.ofNat_eq_natCast, decide_eq_true_eq, and_true, true_and, Nat.zero_add, Bool.not_eq_true', decide_eq_false_iff_not]



noncomputable def s_first : Summ cod := fun args H => match args, H with
  | [.agg [.int .i64 i, .int .i64 st, .int .i64 t, .int .i64 x, .int .i64 y, .int .i64 sx, .int .i64 sy, .int .i64 h, .int .i64 r, .int .i64 ra, .int .i64 c, .int .i64 hi, .int .i64 mi, .int .i64 sl, .int .i64 lt, .int .i64 lx, .int .i64 ly, .int .i64 lh, .int .i64 lc, .int .i64 le], .agg [.int .i64 i2, .int .i64 st2, .int .i64 t2, .int .i64 x2, .int .i64 y2, .int .i64 sx2, .int .i64 sy2, .int .i64 h2, .int .i64 r2, .int .i64 ra2, .int .i64 c2, .int .i64 hi2, .int .i64 mi2, .int .i64 sl2, .int .i64 lt2, .int .i64 lx2, .int .i64 ly2, .int .i64 lh2, .int .i64 lc2, .int .i64 le2], .agg [.int .i64 lat, .int .i64 ver], .c (.int .i64 sec), .c (.int .i64 acc), .c (.int .i64 cl)], [] => .ret (.tup [.c (.int .i64 (F.sea (F.alE i st t x y sx sy h r ra c hi mi sl lt lx ly lh lc le i2 st2 t2 x2 y2 sx2 sy2 h2 r2 ra2 c2 hi2 mi2 sl2 lt2 lx2 ly2 lh2 lc2 le2 lat ver sec acc cl) (F.hit F.tstF i st t x y sx sy h r ra c hi mi sl lt lx ly lh lc le i2 st2 t2 x2 y2 sx2 sy2 h2 r2 ra2 c2 hi2 mi2 sl2 lt2 lx2 ly2 lh2 lc2 le2 lat ver acc cl) (max t t2) sec).1), .c (.int .i64 (F.sea (F.alE i st t x y sx sy h r ra c hi mi sl lt lx ly lh lc le i2 st2 t2 x2 y2 sx2 sy2 h2 r2 ra2 c2 hi2 mi2 sl2 lt2 lx2 ly2 lh2 lc2 le2 lat ver sec acc cl) (F.hit F.tstF i st t x y sx sy h r ra c hi mi sl lt lx ly lh lc le i2 st2 t2 x2 y2 sx2 sy2 h2 r2 ra2 c2 hi2 mi2 sl2 lt2 lx2 ly2 lh2 lc2 le2 lat ver acc cl) (max t t2) sec).2)], [])
  | _, _ => .fail


theorem first_sound : Sound Try.prog cod 49 s_first := sound_runs (cfg := C_srF) L_srF_ok mixed Try.func49 rfl rfl _ fun args H r news hg b0 hb => by
  unfold s_first at hg
  split at hg
  · skip
    cases hg
    exact first_run _ _ _ _ _ _ _ _ _ _ _ _ _ _ _ _ _ _ _ _ _ _ _ _ _ _ _ _ _ _ _ _ _ _ _ _ _ _ _ _ _ _ _ _ _ b0 hb 
  · exact hg.elim

noncomputable def L_first : Sums cod := (49, .p s_first) :: L_srF
noncomputable def C_first : Cfg cod := mkC L_first

theorem L_first_ok : Snd Try.prog cod L_first := .cons first_sound L_srF_ok



def cuts_srC : Cuts := [(12, [20, 6, 8, 7, 19, 5, 4, 3], 4)]

theorem srC_t0 (lat ver : Int) (sec : Int) (acc : Int) (cl : Int) (la ve : Int) (i st t x y sx sy h r ra c hi mi sl lt lx ly lh lc le i2 st2 t2 x2 y2 sx2 sy2 h2 r2 ra2 c2 hi2 mi2 sl2 lt2 lx2 ly2 lh2 lc2 le2 : Int) : symF C_first cuts_srC Try.f79.results.toList 1 400 [.code (codeOf Try.f79)] ⟨argsS Try.f79 [.agg [.int .i64 i, .int .i64 st, .int .i64 t, .int .i64 x, .int .i64 y, .int .i64 sx, .int .i64 sy, .int .i64 h, .int .i64 r, .int .i64 ra, .int .i64 c, .int .i64 hi, .int .i64 mi, .int .i64 sl, .int .i64 lt, .int .i64 lx, .int .i64 ly, .int .i64 lh, .int .i64 lc, .int .i64 le], .agg [.int .i64 i2, .int .i64 st2, .int .i64 t2, .int .i64 x2, .int .i64 y2, .int .i64 sx2, .int .i64 sy2, .int .i64 h2, .int .i64 r2, .int .i64 ra2, .int .i64 c2, .int .i64 hi2, .int .i64 mi2, .int .i64 sl2, .int .i64 lt2, .int .i64 lx2, .int .i64 ly2, .int .i64 lh2, .int .i64 lc2, .int .i64 le2], .agg [.int .i64 lat, .int .i64 ver], .c (.int .i64 sec), .c (.int .i64 acc), .c (.int .i64 cl), .c (.fn 80 [(0, 0, 0)])], ([.rblk [.int .i64 la, .int .i64 ve]] : Heap cod)⟩ =
 cond (!decide (F.trackE i st t x y sx sy h r ra c hi mi sl lt lx ly lh lc le = 0)) (
 .ret (.fin (.tup [.c (.int .i64 0), .c (.int .i64 (F.trackE i st t x y sx sy h r ra c hi mi sl lt lx ly lh lc le))]) [])) (
 .need (i64ok (0 + 1)) (
 cond (!decide (F.trackE i2 st2 t2 x2 y2 sx2 sy2 h2 r2 ra2 c2 hi2 mi2 sl2 lt2 lx2 ly2 lh2 lc2 le2 = 0)) (
  .ret (.fin (.tup [.c (.int .i64 0), .c (.int .i64 (F.trackE i2 st2 t2 x2 y2 sx2 sy2 h2 r2 ra2 c2 hi2 mi2 sl2 lt2 lx2 ly2 lh2 lc2 le2))]) [])) (
  .need (i64ok (0 + 1 + 1)) (
  cond (F.aout lat 1000000) (
   .ret (.fin (.tup [.c (.int .i64 0), .c (.int .i64 4)]) [])) (
   cond (F.aout ver 60000) (
    .ret (.fin (.tup [.c (.int .i64 0), .c (.int .i64 4)]) [])) (
    cond (F.aout sec 300) (
     .ret (.fin (.tup [.c (.int .i64 0), .c (.int .i64 4)]) [])) (
     cond (F.aout acc 20) (
      .ret (.fin (.tup [.c (.int .i64 0), .c (.int .i64 4)]) [])) (
      cond (F.aout cl 200) (
       .ret (.fin (.tup [.c (.int .i64 0), .c (.int .i64 4)]) [])) (
       .ret (.cut (cutAt Try.f79 12) ⟨tmG 121 [(3, .c (.int .i64 sec)), (0, .c (.int .i64 acc)), (0, .c (.int .i64 cl)), (0, .c (.fn 80 [(0, 0, 0)])), (0, .c (.ptr 1 0 0)), (0, .c (.ptr 2 0 0)), (10, .c (.int .i64 (max t t2))), (0, .c (.int .i64 0))], [.rblk [.int .i64 la, .int .i64 ve], .blk [.int .i64 i, .int .i64 st, .int .i64 t, .int .i64 x, .int .i64 y, .int .i64 sx, .int .i64 sy, .int .i64 h, .int .i64 r, .int .i64 ra, .int .i64 c, .int .i64 hi, .int .i64 mi, .int .i64 sl, .int .i64 lt, .int .i64 lx, .int .i64 ly, .int .i64 lh, .int .i64 lc, .int .i64 le] 29, .blk [.int .i64 i2, .int .i64 st2, .int .i64 t2, .int .i64 x2, .int .i64 y2, .int .i64 sx2, .int .i64 sy2, .int .i64 h2, .int .i64 r2, .int .i64 ra2, .int .i64 c2, .int .i64 hi2, .int .i64 mi2, .int .i64 sl2, .int .i64 lt2, .int .i64 lx2, .int .i64 ly2, .int .i64 lh2, .int .i64 lc2, .int .i64 le2] 29, .blk [.int .i64 lat, .int .i64 ver] 81]⟩)))))))))) := by kernel_rfl


noncomputable def st_srC_12 (lat ver : Int) (sec : Int) (acc : Int) (cl : Int) (la ve : Int) (i st t x y sx sy h r ra c hi mi sl lt lx ly lh lc le i2 st2 t2 x2 y2 sx2 sy2 h2 r2 ra2 c2 hi2 mi2 sl2 lt2 lx2 ly2 lh2 lc2 le2 : Int) (k : Int) : St cod := ⟨tmG 121 [(3, .c (.int .i64 sec)), (0, .c (.int .i64 acc)), (0, .c (.int .i64 cl)), (0, .c (.fn 80 [(0, 0, 0)])), (0, .c (.ptr 1 0 0)), (0, .c (.ptr 2 0 0)), (10, .c (.int .i64 (max t t2))), (0, .c (.int .i64 k))], [.rblk [.int .i64 la, .int .i64 ve], .blk [.int .i64 i, .int .i64 st, .int .i64 t, .int .i64 x, .int .i64 y, .int .i64 sx, .int .i64 sy, .int .i64 h, .int .i64 r, .int .i64 ra, .int .i64 c, .int .i64 hi, .int .i64 mi, .int .i64 sl, .int .i64 lt, .int .i64 lx, .int .i64 ly, .int .i64 lh, .int .i64 lc, .int .i64 le] 29, .blk [.int .i64 i2, .int .i64 st2, .int .i64 t2, .int .i64 x2, .int .i64 y2, .int .i64 sx2, .int .i64 sy2, .int .i64 h2, .int .i64 r2, .int .i64 ra2, .int .i64 c2, .int .i64 hi2, .int .i64 mi2, .int .i64 sl2, .int .i64 lt2, .int .i64 lx2, .int .i64 ly2, .int .i64 lh2, .int .i64 lc2, .int .i64 le2] 29, .blk [.int .i64 lat, .int .i64 ver] 81]⟩


theorem srC_t12 (lat ver : Int) (sec : Int) (acc : Int) (cl : Int) (la ve : Int) (i st t x y sx sy h r ra c hi mi sl lt lx ly lh lc le i2 st2 t2 x2 y2 sx2 sy2 h2 r2 ra2 c2 hi2 mi2 sl2 lt2 lx2 ly2 lh2 lc2 le2 : Int) (k : Int) : symF C_first cuts_srC Try.f79.results.toList 1 400 (cutAt Try.f79 12) (st_srC_12 lat ver sec acc cl la ve i st t x y sx sy h r ra c hi mi sl lt lx ly lh lc le i2 st2 t2 x2 y2 sx2 sy2 h2 r2 ra2 c2 hi2 mi2 sl2 lt2 lx2 ly2 lh2 lc2 le2 k) =
 cond (decide (k ≤ sec)) (
 .need (i64ok (max t t2 + k)) (
 .need (i64ok (max t t2 + k)) (
 cond (!decide (F.predE i st t x y sx sy h r ra c hi mi sl lt lx ly lh lc le (max t t2 + k) acc = 0)) (
  .ret (.fin (.tup [.c (.int .i64 0), .c (.int .i64 12)]) [])) (
  cond (!decide (F.predE i2 st2 t2 x2 y2 sx2 sy2 h2 r2 ra2 c2 hi2 mi2 sl2 lt2 lx2 ly2 lh2 lc2 le2 (max t t2 + k) acc = 0)) (
   .ret (.fin (.tup [.c (.int .i64 0), .c (.int .i64 12)]) [])) (
   .need (i64ok (max t t2 + k)) (
   .need (i64ok (2 * (max t t2 + k))) (
   .need (i64ok (2 * (max t t2 + k) - t)) (
   .need (i64ok (2 * (max t t2 + k) - t - t2)) (
   .need (i64ok (cl * (2 * (max t t2 + k) - t - t2))) (
   .need (i64ok (200 + cl * (2 * (max t t2 + k) - t - t2))) (
   .need ((F.b9   (F.z (F.predE i st t x y sx sy h r ra c hi mi sl lt lx ly lh lc le (max t t2 + k) acc) (F.px x sx (max t t2 + k - t))) ∧ (F.b9   (F.z (F.predE i st t x y sx sy h r ra c hi mi sl lt lx ly lh lc le (max t t2 + k) acc) (F.px y sy (max t t2 + k - t))) ∧ (F.b9   (F.z (F.predE i2 st2 t2 x2 y2 sx2 sy2 h2 r2 ra2 c2 hi2 mi2 sl2 lt2 lx2 ly2 lh2 lc2 le2 (max t t2 + k) acc)     (F.px x2 sx2 (max t t2 + k - t2))) ∧ F.b9   (F.z (F.predE i2 st2 t2 x2 y2 sx2 sy2 h2 r2 ra2 c2 hi2 mi2 sl2 lt2 lx2 ly2 lh2 lc2 le2 (max t t2 + k) acc)     (F.px y2 sy2 (max t t2 + k - t2))))))) (
   .need (i64ok   (F.z (F.predE i st t x y sx sy h r ra c hi mi sl lt lx ly lh lc le (max t t2 + k) acc)       (F.pr ra sl acc (max t t2 + k - t)) +     F.z (F.predE i2 st2 t2 x2 y2 sx2 sy2 h2 r2 ra2 c2 hi2 mi2 sl2 lt2 lx2 ly2 lh2 lc2 le2 (max t t2 + k) acc)       (F.pr ra2 sl2 acc (max t t2 + k - t2)))) (
   .need (i64ok   (F.z (F.predE i st t x y sx sy h r ra c hi mi sl lt lx ly lh lc le (max t t2 + k) acc) (F.ph h r (max t t2 + k - t)) -     F.z (F.predE i2 st2 t2 x2 y2 sx2 sy2 h2 r2 ra2 c2 hi2 mi2 sl2 lt2 lx2 ly2 lh2 lc2 le2 (max t t2 + k) acc)       (F.ph h2 r2 (max t t2 + k - t2)))) (
   .need (i64ok   (F.z (F.predE i2 st2 t2 x2 y2 sx2 sy2 h2 r2 ra2 c2 hi2 mi2 sl2 lt2 lx2 ly2 lh2 lc2 le2 (max t t2 + k) acc)       (F.ph h2 r2 (max t t2 + k - t2)) -     F.z (F.predE i st t x y sx sy h r ra c hi mi sl lt lx ly lh lc le (max t t2 + k) acc) (F.ph h r (max t t2 + k - t)))) (
   .need ((F.b9 la ∧ (F.b9 ve ∧ (F.b9   (F.z (F.predE i st t x y sx sy h r ra c hi mi sl lt lx ly lh lc le (max t t2 + k) acc)       (F.pr ra sl acc (max t t2 + k - t)) +     F.z (F.predE i2 st2 t2 x2 y2 sx2 sy2 h2 r2 ra2 c2 hi2 mi2 sl2 lt2 lx2 ly2 lh2 lc2 le2 (max t t2 + k) acc)       (F.pr ra2 sl2 acc (max t t2 + k - t2))) ∧ F.b9 (200 + cl * (2 * (max t t2 + k) - t - t2)))))) (
   cond (F.tstC   (F.far     (F.z (F.predE i st t x y sx sy h r ra c hi mi sl lt lx ly lh lc le (max t t2 + k) acc)       (F.px x sx (max t t2 + k - t)))     (F.z (F.predE i st t x y sx sy h r ra c hi mi sl lt lx ly lh lc le (max t t2 + k) acc)       (F.px y sy (max t t2 + k - t)))     (F.z (F.predE i2 st2 t2 x2 y2 sx2 sy2 h2 r2 ra2 c2 hi2 mi2 sl2 lt2 lx2 ly2 lh2 lc2 le2 (max t t2 + k) acc)       (F.px x2 sx2 (max t t2 + k - t2)))     (F.z (F.predE i2 st2 t2 x2 y2 sx2 sy2 h2 r2 ra2 c2 hi2 mi2 sl2 lt2 lx2 ly2 lh2 lc2 le2 (max t t2 + k) acc)       (F.px y2 sy2 (max t t2 + k - t2))))   (F.z (F.predE i st t x y sx sy h r ra c hi mi sl lt lx ly lh lc le (max t t2 + k) acc)       (F.pr ra sl acc (max t t2 + k - t)) +     F.z (F.predE i2 st2 t2 x2 y2 sx2 sy2 h2 r2 ra2 c2 hi2 mi2 sl2 lt2 lx2 ly2 lh2 lc2 le2 (max t t2 + k) acc)       (F.pr ra2 sl2 acc (max t t2 + k - t2)))   (max     (F.z (F.predE i st t x y sx sy h r ra c hi mi sl lt lx ly lh lc le (max t t2 + k) acc)         (F.ph h r (max t t2 + k - t)) -       F.z (F.predE i2 st2 t2 x2 y2 sx2 sy2 h2 r2 ra2 c2 hi2 mi2 sl2 lt2 lx2 ly2 lh2 lc2 le2 (max t t2 + k) acc)         (F.ph h2 r2 (max t t2 + k - t2)))     (F.z (F.predE i2 st2 t2 x2 y2 sx2 sy2 h2 r2 ra2 c2 hi2 mi2 sl2 lt2 lx2 ly2 lh2 lc2 le2 (max t t2 + k) acc)         (F.ph h2 r2 (max t t2 + k - t2)) -       F.z (F.predE i st t x y sx sy h r ra c hi mi sl lt lx ly lh lc le (max t t2 + k) acc)         (F.ph h r (max t t2 + k - t))))   (200 + cl * (2 * (max t t2 + k) - t - t2)) la ve) (
    .ret (.fin (.tup [.c (.int .i64 k), .c (.int .i64 0)]) [])) (
    .need (i64ok (k + 1)) (
    .ret (.cut (cutAt Try.f79 12) ⟨tmG 121 [(3, .c (.int .i64 sec)), (0, .c (.int .i64 acc)), (0, .c (.int .i64 cl)), (0, .c (.fn 80 [(0, 0, 0)])), (0, .c (.ptr 1 0 0)), (0, .c (.ptr 2 0 0)), (10, .c (.int .i64 (max t t2))), (0, .c (.int .i64 (k + 1)))], [.rblk [.int .i64 la, .int .i64 ve], .blk [.int .i64 i, .int .i64 st, .int .i64 t, .int .i64 x, .int .i64 y, .int .i64 sx, .int .i64 sy, .int .i64 h, .int .i64 r, .int .i64 ra, .int .i64 c, .int .i64 hi, .int .i64 mi, .int .i64 sl, .int .i64 lt, .int .i64 lx, .int .i64 ly, .int .i64 lh, .int .i64 lc, .int .i64 le] 29, .blk [.int .i64 i2, .int .i64 st2, .int .i64 t2, .int .i64 x2, .int .i64 y2, .int .i64 sx2, .int .i64 sy2, .int .i64 h2, .int .i64 r2, .int .i64 ra2, .int .i64 c2, .int .i64 hi2, .int .i64 mi2, .int .i64 sl2, .int .i64 lt2, .int .i64 lx2, .int .i64 ly2, .int .i64 lh2, .int .i64 lc2, .int .i64 le2] 29, .blk [.int .i64 lat, .int .i64 ver] 81]⟩))))))))))))))))))) (
 .ret (.fin (.tup [.c (.int .i64 0), .c (.int .i64 8)]) [])) := by kernel_rfl



theorem srC_loop (i st t x y sx sy h r ra c hi mi sl lt lx ly lh lc le i2 st2 t2 x2 y2 sx2 sy2 h2 r2 ra2 c2 hi2 mi2 sl2 lt2 lx2 ly2 lh2 lc2 le2 lat ver sec acc cl : Int) (hs : 0 ≤ sec ∧ sec ≤ 300) (hc : 0 ≤ cl ∧ cl ≤ 200) (hl : 0 ≤ lat ∧ lat ≤ 1000000) (hv : 0 ≤ ver ∧ ver ≤ 60000) (ht : 0 ≤ t ∧ t ≤ 200000) (ht2 : 0 ≤ t2 ∧ t2 ≤ 200000) (b0 : Base) (hb0 : b0.n = 1) (R : SV) : ∀ (m : Nat) (k : Int), 0 ≤ k → k + m = sec + 1 → R = resS (F.sear (F.hit F.tstC i st t x y sx sy h r ra c hi mi sl lt lx ly lh lc le i2 st2 t2 x2 y2 sx2 sy2 h2 r2 ra2 c2 hi2 mi2 sl2 lt2 lx2 ly2 lh2 lc2 le2 lat ver acc cl) (max t t2) k m) →
    Sym.Runs Try.prog b0 (cutAt Try.f79 12) (st_srC_12 lat ver sec acc cl lat ver i st t x y sx sy h r ra c hi mi sl lt lx ly lh lc le i2 st2 t2 x2 y2 sx2 sy2 h2 r2 ra2 c2 hi2 mi2 sl2 lt2 lx2 ly2 lh2 lc2 le2 k) (Sym.Ends Try.prog Try.f79 1 R []) := by
  intro m
  induction m with
  | zero =>
    intro k h0 hm hR
    refine Runs.go (cfg := C_first) L_first_ok mixed cuts_srC 400 hb0 (srC_t12 lat ver sec acc cl lat ver i st t x y sx sy h r ra c hi mi sl lt lx ly lh lc le i2 st2 t2 x2 y2 sx2 sy2 h2 r2 ra2 c2 hi2 mi2 sl2 lt2 lx2 ly2 lh2 lc2 le2 k) ?_
    have h1 : ¬ k ≤ sec := by omega
    simp only [T.wp, T.wp_cond, Aft, Int.ofNat_eq_natCast, decide_eq_true_eq, and_true, true_and, Nat.zero_add, Bool.not_eq_true', decide_eq_false_iff_not, h1, if_false, hR]
    rfl
  | succ m ih =>
    intro k h0 hm hR
    have nx := ih (k + 1) (by omega) (by omega)
    have h1 : k ≤ sec := by omega
    simp only [F.sear] at hR
    refine Runs.go (cfg := C_first) L_first_ok mixed cuts_srC 400 hb0 (srC_t12 lat ver sec acc cl lat ver i st t x y sx sy h r ra c hi mi sl lt lx ly lh lc le i2 st2 t2 x2 y2 sx2 sy2 h2 r2 ra2 c2 hi2 mi2 sl2 lt2 lx2 ly2 lh2 lc2 le2 k) ?_
    by_cases e1 : F.predE i st t x y sx sy h r ra c hi mi sl lt lx ly lh lc le (max t t2 + k) acc = 0
    · by_cases e2 : F.predE i2 st2 t2 x2 y2 sx2 sy2 h2 r2 ra2 c2 hi2 mi2 sl2 lt2 lx2 ly2 lh2 lc2 le2 (max t t2 + k) acc = 0
      · obtain ⟨n1, d1, x1, y1, g1, r1⟩ := predE_zero e1
        obtain ⟨_, d2, x2', y2', g2, r2'⟩ := predE_zero e2
        rw [hit_go e1 e2] at hR
        have u1 := mul_bd (x := cl) (y := 2 * (max t t2 + k) - t - t2) (a := 200) (b := 1200) (by omega) (by omega)
        simp only [T.wp, T.wp_cond, Aft, Int.ofNat_eq_natCast, decide_eq_true_eq, and_true, true_and, Nat.zero_add, Bool.not_eq_true', decide_eq_false_iff_not, h1, if_true, e1, e2, F.z, not_true_eq_false, if_false]
        generalize hw : F.tstC _ _ _ _ _ _ = v at *
        clear hw ih e1 e2
        generalize F.px x sx (max t t2 + k - t) = z1 at *
        generalize F.px y sy (max t t2 + k - t) = z2 at *
        generalize F.px x2 sx2 (max t t2 + k - t2) = z3 at *
        generalize F.px y2 sy2 (max t t2 + k - t2) = z4 at *
        generalize F.pr ra sl acc (max t t2 + k - t) = z5 at *
        generalize F.pr ra2 sl2 acc (max t t2 + k - t2) = z6 at *
        generalize F.ph h r (max t t2 + k - t) = z7 at *
        generalize F.ph h2 r2 (max t t2 + k - t2) = z8 at *
        generalize cl * (2 * (max t t2 + k) - t - t2) = z9 at *
        unfold i64ok F.b9
        refine ⟨by omega, by omega, by omega, by omega, by omega, by omega, by omega, by omega, ⟨by omega, by omega, by omega, by omega⟩, by omega, by omega, by omega, ⟨by omega, by omega, by omega, by omega⟩, ?_⟩
        cases v
        · simp only [Bool.false_eq_true, if_false, reduceCtorEq] at hR ⊢
          exact ⟨by omega, nx (by simpa using hR)⟩
        · simp only [if_true] at hR ⊢
          simpa [resS] using hR.symm
      · rw [hit_bad (.inr e2), if_pos rfl] at hR
        simp only [T.wp, T.wp_cond, Aft, Int.ofNat_eq_natCast, decide_eq_true_eq, and_true, true_and, Nat.zero_add, Bool.not_eq_true', decide_eq_false_iff_not, h1, if_true, e1, e2, not_true_eq_false, if_false, not_false_eq_true, hR]
        unfold i64ok
        exact ⟨by omega, by omega, rfl⟩
    · rw [hit_bad (.inl e1), if_pos rfl] at hR
      simp only [T.wp, T.wp_cond, Aft, Int.ofNat_eq_natCast, decide_eq_true_eq, and_true, true_and, Nat.zero_add, Bool.not_eq_true', decide_eq_false_iff_not, h1, if_true, e1, not_false_eq_true, hR]
      unfold i64ok
      exact ⟨by omega, by omega, rfl⟩
theorem srC_run (lat ver : Int) (sec : Int) (acc : Int) (cl : Int) (la ve : Int) (i st t x y sx sy h r ra c hi mi sl lt lx ly lh lc le i2 st2 t2 x2 y2 sx2 sy2 h2 r2 ra2 c2 hi2 mi2 sl2 lt2 lx2 ly2 lh2 lc2 le2 : Int) (b0 : Base) (hb : b0.n = 1) (h0 : la = lat ∧ ve = ver) : Sym.Runs Try.prog b0 [.code (codeOf Try.f79)] ⟨argsS Try.f79 [.agg [.int .i64 i, .int .i64 st, .int .i64 t, .int .i64 x, .int .i64 y, .int .i64 sx, .int .i64 sy, .int .i64 h, .int .i64 r, .int .i64 ra, .int .i64 c, .int .i64 hi, .int .i64 mi, .int .i64 sl, .int .i64 lt, .int .i64 lx, .int .i64 ly, .int .i64 lh, .int .i64 lc, .int .i64 le], .agg [.int .i64 i2, .int .i64 st2, .int .i64 t2, .int .i64 x2, .int .i64 y2, .int .i64 sx2, .int .i64 sy2, .int .i64 h2, .int .i64 r2, .int .i64 ra2, .int .i64 c2, .int .i64 hi2, .int .i64 mi2, .int .i64 sl2, .int .i64 lt2, .int .i64 lx2, .int .i64 ly2, .int .i64 lh2, .int .i64 lc2, .int .i64 le2], .agg [.int .i64 lat, .int .i64 ver], .c (.int .i64 sec), .c (.int .i64 acc), .c (.int .i64 cl), .c (.fn 80 [(0, 0, 0)])], ([.rblk [.int .i64 la, .int .i64 ve]] : Heap cod)⟩ (Sym.Ends Try.prog Try.f79 1 (.tup [.c (.int .i64 (F.sea (F.alE i st t x y sx sy h r ra c hi mi sl lt lx ly lh lc le i2 st2 t2 x2 y2 sx2 sy2 h2 r2 ra2 c2 hi2 mi2 sl2 lt2 lx2 ly2 lh2 lc2 le2 lat ver sec acc cl) (F.hit F.tstC i st t x y sx sy h r ra c hi mi sl lt lx ly lh lc le i2 st2 t2 x2 y2 sx2 sy2 h2 r2 ra2 c2 hi2 mi2 sl2 lt2 lx2 ly2 lh2 lc2 le2 lat ver acc cl) (max t t2) sec).1), .c (.int .i64 (F.sea (F.alE i st t x y sx sy h r ra c hi mi sl lt lx ly lh lc le i2 st2 t2 x2 y2 sx2 sy2 h2 r2 ra2 c2 hi2 mi2 sl2 lt2 lx2 ly2 lh2 lc2 le2 lat ver sec acc cl) (F.hit F.tstC i st t x y sx sy h r ra c hi mi sl lt lx ly lh lc le i2 st2 t2 x2 y2 sx2 sy2 h2 r2 ra2 c2 hi2 mi2 sl2 lt2 lx2 ly2 lh2 lc2 le2 lat ver acc cl) (max t t2) sec).2)]) []) := by
  obtain ⟨rfl, rfl⟩ := h0
  refine Runs.go (cfg := C_first) L_first_ok mixed cuts_srC 400 hb (srC_t0 la ve sec acc cl la ve i st t x y sx sy h r ra c hi mi sl lt lx ly lh lc le i2 st2 t2 x2 y2 sx2 sy2 h2 r2 ra2 c2 hi2 mi2 sl2 lt2 lx2 ly2 lh2 lc2 le2) ?_
  unfold F.sea F.alE
  by_cases a1 : F.trackE i st t x y sx sy h r ra c hi mi sl lt lx ly lh lc le = 0
  · by_cases a2 : F.trackE i2 st2 t2 x2 y2 sx2 sy2 h2 r2 ra2 c2 hi2 mi2 sl2 lt2 lx2 ly2 lh2 lc2 le2 = 0
    · cases a3 : F.aout la 1000000
      · cases a4 : F.aout ve 60000
        · cases a5 : F.aout sec 300
          · cases a6 : F.aout acc 20
            · cases a7 : F.aout cl 200
              · have b1 := (trackE_zero a1).1
                have b2 := (trackE_zero a2).1
                have b3 := aout_no a3
                have b4 := aout_no a4
                have b5 := aout_no a5
                have b7 := aout_no a7
                have b8 : i64ok (0 + 1) ∧ i64ok (0 + 1 + 1) := ⟨by unfold i64ok; omega, by unfold i64ok; omega⟩
                simp only [T.wp, T.wp_cond, Aft, Int.ofNat_eq_natCast, decide_eq_true_eq, and_true, true_and, Nat.zero_add, Bool.not_eq_true', decide_eq_false_iff_not, a1, a2, b8, Bool.or_self, Bool.false_eq_true, not_true_eq_false, if_false, if_true]
                exact srC_loop i st t x y sx sy h r ra c hi mi sl lt lx ly lh lc le i2 st2 t2 x2 y2 sx2 sy2 h2 r2 ra2 c2 hi2 mi2 sl2 lt2 lx2 ly2 lh2 lc2 le2 la ve sec acc cl b5 b7 b3 b4 b1 b2 b0 hb _ (sec + 1).toNat 0 (by omega) (by omega) rfl
              · simp [T.wp, Aft, a1, a2, i64ok]
            · simp [T.wp, Aft, a1, a2, i64ok]
          · simp [T.wp, Aft, a1, a2, i64ok]
        · simp [T.wp, Aft, a1, a2, i64ok]
      · simp [T.wp, Aft, a1, a2, i64ok]
    · simp [T.wp, Aft, a1, a2, i64ok]
  · simp [T.wp, Aft, a1]



noncomputable def s_srC : Summ cod := fun args H => match args, H with
  | [.agg [.int .i64 i, .int .i64 st, .int .i64 t, .int .i64 x, .int .i64 y, .int .i64 sx, .int .i64 sy, .int .i64 h, .int .i64 r, .int .i64 ra, .int .i64 c, .int .i64 hi, .int .i64 mi, .int .i64 sl, .int .i64 lt, .int .i64 lx, .int .i64 ly, .int .i64 lh, .int .i64 lc, .int .i64 le], .agg [.int .i64 i2, .int .i64 st2, .int .i64 t2, .int .i64 x2, .int .i64 y2, .int .i64 sx2, .int .i64 sy2, .int .i64 h2, .int .i64 r2, .int .i64 ra2, .int .i64 c2, .int .i64 hi2, .int .i64 mi2, .int .i64 sl2, .int .i64 lt2, .int .i64 lx2, .int .i64 ly2, .int .i64 lh2, .int .i64 lc2, .int .i64 le2], .agg [.int .i64 lat, .int .i64 ver], .c (.int .i64 sec), .c (.int .i64 acc), .c (.int .i64 cl), .c (.fn 80 [(0, 0, 0)])], [.rblk [.int .i64 la, .int .i64 ve]] => .need ((la = lat ∧ ve = ver)) (.ret (.tup [.c (.int .i64 (F.sea (F.alE i st t x y sx sy h r ra c hi mi sl lt lx ly lh lc le i2 st2 t2 x2 y2 sx2 sy2 h2 r2 ra2 c2 hi2 mi2 sl2 lt2 lx2 ly2 lh2 lc2 le2 lat ver sec acc cl) (F.hit F.tstC i st t x y sx sy h r ra c hi mi sl lt lx ly lh lc le i2 st2 t2 x2 y2 sx2 sy2 h2 r2 ra2 c2 hi2 mi2 sl2 lt2 lx2 ly2 lh2 lc2 le2 lat ver acc cl) (max t t2) sec).1), .c (.int .i64 (F.sea (F.alE i st t x y sx sy h r ra c hi mi sl lt lx ly lh lc le i2 st2 t2 x2 y2 sx2 sy2 h2 r2 ra2 c2 hi2 mi2 sl2 lt2 lx2 ly2 lh2 lc2 le2 lat ver sec acc cl) (F.hit F.tstC i st t x y sx sy h r ra c hi mi sl lt lx ly lh lc le i2 st2 t2 x2 y2 sx2 sy2 h2 r2 ra2 c2 hi2 mi2 sl2 lt2 lx2 ly2 lh2 lc2 le2 lat ver acc cl) (max t t2) sec).2)], []))
  | _, _ => .fail


theorem srC_sound : Sound Try.prog cod 79 s_srC := sound_runs (cfg := C_first) L_first_ok mixed Try.func79 rfl rfl _ fun args H r news hg b0 hb => by
  unfold s_srC at hg
  split at hg
  · skip
    simp only [T.gives, T.wp, Prod.mk.injEq] at hg
    obtain ⟨q0, rfl, rfl⟩ := hg
    exact srC_run _ _ _ _ _ _ _ _ _ _ _ _ _ _ _ _ _ _ _ _ _ _ _ _ _ _ _ _ _ _ _ _ _ _ _ _ _ _ _ _ _ _ _ _ _ _ _ b0 hb (by assumption)
  · exact hg.elim

noncomputable def L_srC : Sums cod := (79, .p s_srC) :: L_first
noncomputable def C_srC : Cfg cod := mkC L_srC

theorem L_srC_ok : Snd Try.prog cod L_srC := .cons srC_sound L_first_ok



def cuts_certain : Cuts := []

theorem certain_t0 (lat ver : Int) (sec : Int) (acc : Int) (cl : Int) (i st t x y sx sy h r ra c hi mi sl lt lx ly lh lc le i2 st2 t2 x2 y2 sx2 sy2 h2 r2 ra2 c2 hi2 mi2 sl2 lt2 lx2 ly2 lh2 lc2 le2 : Int) : symF C_srC cuts_certain Try.f48.results.toList 0 400 [.code (codeOf Try.f48)] ⟨argsS Try.f48 [.agg [.int .i64 i, .int .i64 st, .int .i64 t, .int .i64 x, .int .i64 y, .int .i64 sx, .int .i64 sy, .int .i64 h, .int .i64 r, .int .i64 ra, .int .i64 c, .int .i64 hi, .int .i64 mi, .int .i64 sl, .int .i64 lt, .int .i64 lx, .int .i64 ly, .int .i64 lh, .int .i64 lc, .int .i64 le], .agg [.int .i64 i2, .int .i64 st2, .int .i64 t2, .int .i64 x2, .int .i64 y2, .int .i64 sx2, .int .i64 sy2, .int .i64 h2, .int .i64 r2, .int .i64 ra2, .int .i64 c2, .int .i64 hi2, .int .i64 mi2, .int .i64 sl2, .int .i64 lt2, .int .i64 lx2, .int .i64 ly2, .int .i64 lh2, .int .i64 lc2, .int .i64 le2], .agg [.int .i64 lat, .int .i64 ver], .c (.int .i64 sec), .c (.int .i64 acc), .c (.int .i64 cl)], ([] : Heap cod)⟩ =
.need ((lat = lat ∧ ver = ver)) (
.ret (.fin (.tup [.c (.int .i64 ((F.sea     (F.alE i st t x y sx sy h r ra c hi mi sl lt lx ly lh lc le i2 st2 t2 x2 y2 sx2 sy2 h2 r2 ra2 c2 hi2 mi2 sl2 lt2 lx2       ly2 lh2 lc2 le2 lat ver sec acc cl)     (F.hit F.tstC i st t x y sx sy h r ra c hi mi sl lt lx ly lh lc le i2 st2 t2 x2 y2 sx2 sy2 h2 r2 ra2 c2 hi2 mi2 sl2       lt2 lx2 ly2 lh2 lc2 le2 lat ver acc cl)     (max t t2) sec).1)), .c (.int .i64 ((F.sea     (F.alE i st t x y sx sy h r ra c hi mi sl lt lx ly lh lc le i2 st2 t2 x2 y2 sx2 sy2 h2 r2 ra2 c2 hi2 mi2 sl2 lt2 lx2       ly2 lh2 lc2 le2 lat ver sec acc cl)     (F.hit F.tstC i st t x y sx sy h r ra c hi mi sl lt lx ly lh lc le i2 st2 t2 x2 y2 sx2 sy2 h2 r2 ra2 c2 hi2 mi2 sl2       lt2 lx2 ly2 lh2 lc2 le2 lat ver acc cl)     (max t t2) sec).2))]) [])) := by kernel_rfl



theorem certain_run (lat ver : Int) (sec : Int) (acc : Int) (cl : Int) (i st t x y sx sy h r ra c hi mi sl lt lx ly lh lc le i2 st2 t2 x2 y2 sx2 sy2 h2 r2 ra2 c2 hi2 mi2 sl2 lt2 lx2 ly2 lh2 lc2 le2 : Int) (b0 : Base) (hb : b0.n = 0)  : Sym.Runs Try.prog b0 [.code (codeOf Try.f48)] ⟨argsS Try.f48 [.agg [.int .i64 i, .int .i64 st, .int .i64 t, .int .i64 x, .int .i64 y, .int .i64 sx, .int .i64 sy, .int .i64 h, .int .i64 r, .int .i64 ra, .int .i64 c, .int .i64 hi, .int .i64 mi, .int .i64 sl, .int .i64 lt, .int .i64 lx, .int .i64 ly, .int .i64 lh, .int .i64 lc, .int .i64 le], .agg [.int .i64 i2, .int .i64 st2, .int .i64 t2, .int .i64 x2, .int .i64 y2, .int .i64 sx2, .int .i64 sy2, .int .i64 h2, .int .i64 r2, .int .i64 ra2, .int .i64 c2, .int .i64 hi2, .int .i64 mi2, .int .i64 sl2, .int .i64 lt2, .int .i64 lx2, .int .i64 ly2, .int .i64 lh2, .int .i64 lc2, .int .i64 le2], .agg [.int .i64 lat, .int .i64 ver], .c (.int .i64 sec), .c (.int .i64 acc), .c (.int .i64 cl)], ([] : Heap cod)⟩ (Sym.Ends Try.prog Try.f48 0 (.tup [.c (.int .i64 (F.sea (F.alE i st t x y sx sy h r ra c hi mi sl lt lx ly lh lc le i2 st2 t2 x2 y2 sx2 sy2 h2 r2 ra2 c2 hi2 mi2 sl2 lt2 lx2 ly2 lh2 lc2 le2 lat ver sec acc cl) (F.hit F.tstC i st t x y sx sy h r ra c hi mi sl lt lx ly lh lc le i2 st2 t2 x2 y2 sx2 sy2 h2 r2 ra2 c2 hi2 mi2 sl2 lt2 lx2 ly2 lh2 lc2 le2 lat ver acc cl) (max t t2) sec).1), .c (.int .i64 (F.sea (F.alE i st t x y sx sy h r ra c hi mi sl lt lx ly lh lc le i2 st2 t2 x2 y2 sx2 sy2 h2 r2 ra2 c2 hi2 mi2 sl2 lt2 lx2 ly2 lh2 lc2 le2 lat ver sec acc cl) (F.hit F.tstC i st t x y sx sy h r ra c hi mi sl lt lx ly lh lc le i2 st2 t2 x2 y2 sx2 sy2 h2 r2 ra2 c2 hi2 mi2 sl2 lt2 lx2 ly2 lh2 lc2 le2 lat ver acc cl) (max t t2) sec).2)]) []) := by
  refine Runs.go (cfg := C_srC) L_srC_ok mixed cuts_certain 400 hb (certain_t0 lat ver sec acc cl i st t x y sx sy h r ra c hi mi sl lt lx ly lh lc le i2 st2 t2 x2 y2 sx2 sy2 h2 r2 ra2 c2 hi2 mi2 sl2 lt2 lx2 ly2 lh2 lc2 le2) ?_
  simp only [T.wp, T.wp_cond, Aft, Int.ofNat_eq_natCast, decide_eq_true_eq, and_true, true_and, Nat.zero_add, Bool.not_eq_true', decide_eq_false_iff_not]



noncomputable def s_certain : Summ cod := fun args H => match args, H with
  | [.agg [.int .i64 i, .int .i64 st, .int .i64 t, .int .i64 x, .int .i64 y, .int .i64 sx, .int .i64 sy, .int .i64 h, .int .i64 r, .int .i64 ra, .int .i64 c, .int .i64 hi, .int .i64 mi, .int .i64 sl, .int .i64 lt, .int .i64 lx, .int .i64 ly, .int .i64 lh, .int .i64 lc, .int .i64 le], .agg [.int .i64 i2, .int .i64 st2, .int .i64 t2, .int .i64 x2, .int .i64 y2, .int .i64 sx2, .int .i64 sy2, .int .i64 h2, .int .i64 r2, .int .i64 ra2, .int .i64 c2, .int .i64 hi2, .int .i64 mi2, .int .i64 sl2, .int .i64 lt2, .int .i64 lx2, .int .i64 ly2, .int .i64 lh2, .int .i64 lc2, .int .i64 le2], .agg [.int .i64 lat, .int .i64 ver], .c (.int .i64 sec), .c (.int .i64 acc), .c (.int .i64 cl)], [] => .ret (.tup [.c (.int .i64 (F.sea (F.alE i st t x y sx sy h r ra c hi mi sl lt lx ly lh lc le i2 st2 t2 x2 y2 sx2 sy2 h2 r2 ra2 c2 hi2 mi2 sl2 lt2 lx2 ly2 lh2 lc2 le2 lat ver sec acc cl) (F.hit F.tstC i st t x y sx sy h r ra c hi mi sl lt lx ly lh lc le i2 st2 t2 x2 y2 sx2 sy2 h2 r2 ra2 c2 hi2 mi2 sl2 lt2 lx2 ly2 lh2 lc2 le2 lat ver acc cl) (max t t2) sec).1), .c (.int .i64 (F.sea (F.alE i st t x y sx sy h r ra c hi mi sl lt lx ly lh lc le i2 st2 t2 x2 y2 sx2 sy2 h2 r2 ra2 c2 hi2 mi2 sl2 lt2 lx2 ly2 lh2 lc2 le2 lat ver sec acc cl) (F.hit F.tstC i st t x y sx sy h r ra c hi mi sl lt lx ly lh lc le i2 st2 t2 x2 y2 sx2 sy2 h2 r2 ra2 c2 hi2 mi2 sl2 lt2 lx2 ly2 lh2 lc2 le2 lat ver acc cl) (max t t2) sec).2)], [])
  | _, _ => .fail


theorem certain_sound : Sound Try.prog cod 48 s_certain := sound_runs (cfg := C_srC) L_srC_ok mixed Try.func48 rfl rfl _ fun args H r news hg b0 hb => by
  unfold s_certain at hg
  split at hg
  · skip
    cases hg
    exact certain_run _ _ _ _ _ _ _ _ _ _ _ _ _ _ _ _ _ _ _ _ _ _ _ _ _ _ _ _ _ _ _ _ _ _ _ _ _ _ _ _ _ _ _ _ _ b0 hb 
  · exact hg.elim

noncomputable def L_certain : Sums cod := (48, .p s_certain) :: L_srC
noncomputable def C_certain : Cfg cod := mkC L_certain

theorem L_certain_ok : Snd Try.prog cod L_certain := .cons certain_sound L_srC_ok


end
end Go.Proofs.Ythljcjighomgkaa
