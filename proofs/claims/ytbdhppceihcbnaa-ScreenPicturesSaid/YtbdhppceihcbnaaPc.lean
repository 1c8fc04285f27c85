/- Part of a claim: lemmas on the way to its theorem; each states its own conditions. -/
import Derived.Test.YtbdhppceihcbnaaPb
namespace Go.Proofs.Ytbdhppceihcbnaa
open Sym Go.RowKit
noncomputable section
set_option maxRecDepth 100000
set_option maxHeartbeats 4000000

namespace F
def vok (cx cy s w h : Int) : Bool := decide (pt cx cy = 0) && (inb s 1 50000 && (inb w 1 60 && inb h 1 60))
def vE (cx cy s w h : Int) : Int := if vok cx cy s w h then 0 else 4
def scX (cx px s w : Int) : Int := (px - cx) / s + w.tdiv 2
def vis (x y w h : Int) : Bool := inb x 0 (w - 1) && inb y 0 (h - 1)
def scE (cx cy s w h px py : Int) : Int := if vok cx cy s w h && decide (pt px py = 0) then 0 else 4
def scV (cx cy s w h px py : Int) : Bool := decide (scE cx cy s w h px py = 0) && vis (scX cx px s w) (scX cy py s h) w h
end F


theorem abs_cases (n : Int) : (n < 0 ∧ F.abs n = -n) ∨ (0 ≤ n ∧ F.abs n = n) := by
  unfold F.abs
  split <;> omega
theorem q_bd {n d k : Int} (hn : 0 < n) (hd : -n ≤ d ∧ d ≤ n) (hk : 0 ≤ k) : (-k ≤ (2 * k * d + n) / (2 * n) ∧ (2 * k * d + n) / (2 * n) ≤ k) ∧ (d = n → (2 * k * d + n) / (2 * n) = k) ∧ (d = -n → (2 * k * d + n) / (2 * n) = -k) := by
  have h0 : n / (2 * n) = 0 := Int.ediv_eq_zero_of_lt (by omega) (by omega)
  have e1 : (2 * k * n + n) / (2 * n) = k := by
    rw [show 2 * k * n + n = n + (2 * n) * k by rw [Int.mul_right_comm]; omega, Int.add_mul_ediv_left _ _ (by omega), h0, Int.zero_add]
  have e2 : (2 * k * (-n) + n) / (2 * n) = -k := by
    rw [show 2 * k * (-n) + n = n + (2 * n) * (-k) by rw [Int.mul_neg, Int.mul_neg, Int.mul_right_comm]; omega, Int.add_mul_ediv_left _ _ (by omega), h0, Int.zero_add]
  have m1 : 2 * k * d ≤ 2 * k * n := Int.mul_le_mul_of_nonneg_left hd.2 (by omega)
  have m2 : 2 * k * (-n) ≤ 2 * k * d := Int.mul_le_mul_of_nonneg_left hd.1 (by omega)
  refine ⟨⟨?_, ?_⟩, fun h => by rw [h]; exact e1, fun h => by rw [h]; exact e2⟩
  · have := Int.ediv_le_ediv (a := 2 * k * (-n) + n) (b := 2 * k * d + n) (c := 2 * n) (by omega) (by omega)
    omega
  · have := Int.ediv_le_ediv (a := 2 * k * d + n) (b := 2 * k * n + n) (c := 2 * n) (by omega) (by omega)
    omega
theorem lps_get (ax ay dx dy n : Int) (m k : Nat) (d : Int × Int) (h : k < m) : (F.lps ax ay dx dy n m).getD k d = F.lp ax ay dx dy n k := by
  simp [F.lps, List.getD, h]
/-- A cell of the line. -/
theorem lp_facts {ax ay bx by_ : Int} {k : Int} (hk : 0 ≤ k ∧ k ≤ F.ln ax ay bx by_) (c : Int × Int) (hc : c = F.lp ax ay (bx - ax) (by_ - ay) (F.ln ax ay bx by_) k) :
    F.on ax ay bx by_ c.1 c.2 = true ∧ max (F.abs (c.1 - ax)) (F.abs (c.2 - ay)) = k ∧ (k = F.ln ax ay bx by_ → c = (bx, by_)) := by
  have m1 := ln_bd ax ay bx by_
  have m3 := ln_abs ax ay bx by_
  subst hc
  by_cases hn : F.ln ax ay bx by_ = 0
  · have hk0 : k = 0 := by omega
    subst hk0
    have e : F.lp ax ay (bx - ax) (by_ - ay) (F.ln ax ay bx by_) 0 = (ax, ay) := by rw [hn]; simp [F.lp]
    rw [e]
    refine ⟨by simp [F.on, hn], by simp [F.abs], fun _ => ?_⟩
    rw [Prod.mk.injEq]
    omega
  · have hpos : 0 < F.ln ax ay bx by_ := by omega
    obtain ⟨a1, a2, a3⟩ := q_bd hpos ⟨m1.1, m1.2.1⟩ hk.1
    obtain ⟨b1, b2, b3⟩ := q_bd hpos ⟨m1.2.2.1, m1.2.2.2.1⟩ hk.1
    have hlast : k = F.ln ax ay bx by_ → (2 * k * (bx - ax) + F.ln ax ay bx by_) / (2 * F.ln ax ay bx by_) = bx - ax ∧ (2 * k * (by_ - ay) + F.ln ax ay bx by_) / (2 * F.ln ax ay bx by_) = by_ - ay := fun h => by
      rw [h]
      have h0 : F.ln ax ay bx by_ / (2 * F.ln ax ay bx by_) = 0 := Int.ediv_eq_zero_of_lt (by omega) (by omega)
      constructor <;> rw [Int.add_comm, Int.add_mul_ediv_left _ _ (by omega), h0, Int.zero_add]
    unfold F.lp
    have on : ∀ k', k' = k → F.onk ax ay bx by_ (ax + (2 * k * (bx - ax) + F.ln ax ay bx by_) / (2 * F.ln ax ay bx by_)) (ay + (2 * k * (by_ - ay) + F.ln ax ay bx by_) / (2 * F.ln ax ay bx by_)) k' = true := fun k' h => by
      subst h
      unfold F.onk
      simp
      exact hk.2
    have sx : ax + (2 * k * (bx - ax) + F.ln ax ay bx by_) / (2 * F.ln ax ay bx by_) - ax = (2 * k * (bx - ax) + F.ln ax ay bx by_) / (2 * F.ln ax ay bx by_) := by omega
    have sy : ay + (2 * k * (by_ - ay) + F.ln ax ay bx by_) / (2 * F.ln ax ay bx by_) - ay = (2 * k * (by_ - ay) + F.ln ax ay bx by_) / (2 * F.ln ax ay bx by_) := by omega
    refine ⟨?_, ?_, fun h => ?_⟩
    · unfold F.on
      rw [if_neg hn]
      simp only [sx, sy]
      generalize (2 * k * (bx - ax) + F.ln ax ay bx by_) / (2 * F.ln ax ay bx by_) = Q1 at *
      generalize (2 * k * (by_ - ay) + F.ln ax ay bx by_) / (2 * F.ln ax ay bx by_) = Q2 at *
      split
      · rename_i hlt
        refine on _ ?_
        have x1 := abs_cases (bx - ax)
        have x2 := abs_cases (by_ - ay)
        have x3 := abs_cases Q1
        have x4 := abs_cases Q2
        omega
      · rename_i hlt
        refine on _ ?_
        have x1 := abs_cases (bx - ax)
        have x2 := abs_cases (by_ - ay)
        have x3 := abs_cases Q1
        have x4 := abs_cases Q2
        omega
    · simp only [sx, sy]
      generalize (2 * k * (bx - ax) + F.ln ax ay bx by_) / (2 * F.ln ax ay bx by_) = Q1 at *
      generalize (2 * k * (by_ - ay) + F.ln ax ay bx by_) / (2 * F.ln ax ay bx by_) = Q2 at *
      have x1 := abs_cases (bx - ax)
      have x2 := abs_cases (by_ - ay)
      have x3 := abs_cases Q1
      have x4 := abs_cases Q2
      omega
    · obtain ⟨h1, h2⟩ := hlast h
      rw [h1, h2, Prod.mk.injEq]
      omega
theorem abs_nn (n : Int) : 0 ≤ F.abs n ∧ n ≤ F.abs n ∧ -n ≤ F.abs n := by
  unfold F.abs
  split <;> omega
theorem F.pt_bd {x y : Int} (h : F.pt x y = 0) : (-1000000 ≤ x ∧ x ≤ 1000000) ∧ (-1000000 ≤ y ∧ y ≤ 1000000) := by
  unfold F.pt F.inb at h
  split at h
  · rename_i c
    simp only [Bool.and_eq_true, decide_eq_true_eq] at c
    exact c
  · cases h
theorem F.div_bd {a b : Int} (hb : 1 ≤ b) (ha : -2000000 ≤ a ∧ a ≤ 2000000) : -2000000 ≤ a / b ∧ a / b ≤ 2000000 := by
  constructor
  · rw [Int.le_ediv_iff_mul_le (by omega)]
    have : -2000000 * b ≤ -2000000 * 1 := Int.mul_le_mul_of_nonpos_left (by omega) hb
    omega
  · have : a / b < 2000001 := by
      rw [Int.ediv_lt_iff_lt_mul (by omega)]
      have : 2000001 * 1 ≤ 2000001 * b := Int.mul_le_mul_of_nonneg_left hb (by omega)
      omega
    omega
theorem F.tdiv_half {n : Int} (h : 1 ≤ n ∧ n ≤ 60) : 0 ≤ n.tdiv 2 ∧ n.tdiv 2 ≤ 30 := by
  rw [Int.tdiv_eq_ediv_of_nonneg (by omega)]
  omega


def cuts_vcheck : Cuts := []

theorem vcheck_t0 (cx cy s w h : Int) : symF C_on cuts_vcheck Try.f17.results.toList 0 400 [.code (codeOf Try.f17)] ⟨argsS Try.f17 [.agg [.int .i64 cx, .int .i64 cy, .int .i64 s, .int .i64 w, .int .i64 h]], ([] : Heap cod)⟩ =
 cond (!decide (F.pt cx cy = 0)) (
 .ret (.fin (.c (.int .i64 4)) [])) (
 cond (decide (s < 1)) (
  .ret (.fin (.c (.int .i64 4)) [])) (
  cond (decide (50000 < s)) (
   .ret (.fin (.c (.int .i64 4)) [])) (
   cond (decide (w < 1)) (
    .ret (.fin (.c (.int .i64 4)) [])) (
    cond (decide (60 < w)) (
     .ret (.fin (.c (.int .i64 4)) [])) (
     cond (decide (h < 1)) (
      .ret (.fin (.c (.int .i64 4)) [])) (
      cond (decide (60 < h)) (
       .ret (.fin (.c (.int .i64 4)) [])) (
       .ret (.fin (.c (.int .i64 0)) [])))))))) := by kernel_rfl



theorem vcheck_run (cx cy s w h : Int) (b0 : Base) (hb : b0.n = 0)  : Sym.Runs Try.prog b0 [.code (codeOf Try.f17)] ⟨argsS Try.f17 [.agg [.int .i64 cx, .int .i64 cy, .int .i64 s, .int .i64 w, .int .i64 h]], ([] : Heap cod)⟩ (Sym.Ends Try.prog Try.f17 0 (.c (.int .i64 (F.vE cx cy s w h))) []) := by
  refine Runs.go (cfg := C_on) L_on_ok mixed cuts_vcheck 400 hb (vcheck_t0 cx cy s w h) ?_
  unfold F.vE F.vok F.inb
  simp only [T.wp, T.wp_cond, Aft, Int.ofNat_eq_natCast, decide_eq_true_eq, and_true, true_and, Nat.zero_add, Bool.not_eq_true', decide_eq_false_iff_not]
  by_cases h0 : F.pt cx cy = 0 <;> by_cases h1 : s < 1 <;> by_cases h2 : 50000 < s <;> by_cases h3 : w < 1 <;> by_cases h4 : 60 < w <;> by_cases h5 : h < 1 <;> by_cases h6 : 60 < h <;> simp_all <;> omega



noncomputable def s_vcheck : Summ cod := fun args H => match args, H with
  | [.agg [.int .i64 cx, .int .i64 cy, .int .i64 s, .int .i64 w, .int .i64 h]], [] => .ret (.c (.int .i64 (F.vE cx cy s w h)), [])
  | _, _ => .fail


theorem vcheck_sound : Sound Try.prog cod 17 s_vcheck := sound_runs (cfg := C_on) L_on_ok mixed Try.func17 rfl rfl _ fun args H r news hg b0 hb => by
  unfold s_vcheck at hg
  split at hg
  · skip
    cases hg
    exact vcheck_run _ _ _ _ _ b0 hb 
  · exact hg.elim

noncomputable def L_vcheck : Sums cod := (17, .p s_vcheck) :: L_on
noncomputable def C_vcheck : Cfg cod := mkC L_vcheck

theorem L_vcheck_ok : Snd Try.prog cod L_vcheck := .cons vcheck_sound L_on_ok



def cuts_scell : Cuts := []

theorem scell_t0 (cx cy s w h : Int) (px py : Int) : symF C_vcheck cuts_scell Try.f12.results.toList 0 400 [.code (codeOf Try.f12)] ⟨argsS Try.f12 [.agg [.int .i64 cx, .int .i64 cy, .int .i64 s, .int .i64 w, .int .i64 h], .agg [.int .i64 px, .int .i64 py]], ([] : Heap cod)⟩ =
.need (i64ok (px - cx)) (
.need (((0 : Int) < s ∧ i64ok (px - cx))) (
.need (i64ok (py - cy)) (
.need (((0 : Int) < s ∧ i64ok (py - cy))) (
.need ((2 : Int) ≠ 0) (
.need (i64ok (Int.tdiv w 2)) (
.need (i64ok ((px - cx) / s + Int.tdiv w 2)) (
.need ((2 : Int) ≠ 0) (
.need (i64ok (Int.tdiv h 2)) (
.need (i64ok ((py - cy) / s + Int.tdiv h 2)) (
.ret (.fin (.agg [.int .i64 ((px - cx) / s + Int.tdiv w 2), .int .i64 ((py - cy) / s + Int.tdiv h 2)]) []))))))))))) := by kernel_rfl



theorem scell_run (cx cy s w h : Int) (px py : Int) (b0 : Base) (hb : b0.n = 0) (h0 : F.vok cx cy s w h = true ∧ F.pt px py = 0) : Sym.Runs Try.prog b0 [.code (codeOf Try.f12)] ⟨argsS Try.f12 [.agg [.int .i64 cx, .int .i64 cy, .int .i64 s, .int .i64 w, .int .i64 h], .agg [.int .i64 px, .int .i64 py]], ([] : Heap cod)⟩ (Sym.Ends Try.prog Try.f12 0 (.agg [.int .i64 (F.scX cx px s w), .int .i64 (F.scX cy py s h)]) []) := by
  refine Runs.go (cfg := C_vcheck) L_vcheck_ok mixed cuts_scell 400 hb (scell_t0 cx cy s w h px py) ?_
  obtain ⟨h1, h2⟩ := h0
  unfold F.vok F.inb at h1
  simp only [Bool.and_eq_true, decide_eq_true_eq] at h1
  obtain ⟨g0, ⟨g1, g2⟩, ⟨g3, g4⟩, g5, g6⟩ := h1
  have c1 := F.pt_bd g0
  have c2 := F.pt_bd h2
  have d1 := F.div_bd (a := px - cx) (b := s) (by omega) (by omega)
  have d2 := F.div_bd (a := py - cy) (b := s) (by omega) (by omega)
  have t1 := F.tdiv_half (n := w) ⟨g3, g4⟩
  have t2 := F.tdiv_half (n := h) ⟨g5, g6⟩
  simp only [T.wp, Aft]
  unfold i64ok F.scX
  exact ⟨by omega, ⟨by omega, by omega⟩, by omega, ⟨by omega, by omega⟩, by decide, by omega, by omega, by decide, by omega, by omega, rfl, trivial⟩



noncomputable def s_scell : Summ cod := fun args H => match args, H with
  | [.agg [.int .i64 cx, .int .i64 cy, .int .i64 s, .int .i64 w, .int .i64 h], .agg [.int .i64 px, .int .i64 py]], [] => .need ((F.vok cx cy s w h = true ∧ F.pt px py = 0)) (.ret (.agg [.int .i64 (F.scX cx px s w), .int .i64 (F.scX cy py s h)], []))
  | _, _ => .fail


theorem scell_sound : Sound Try.prog cod 12 s_scell := sound_runs (cfg := C_vcheck) L_vcheck_ok mixed Try.func12 rfl rfl _ fun args H r news hg b0 hb => by
  unfold s_scell at hg
  split at hg
  · skip
    simp only [T.gives, T.wp, Prod.mk.injEq] at hg
    obtain ⟨q0, rfl, rfl⟩ := hg
    exact scell_run _ _ _ _ _ _ _ b0 hb (by assumption)
  · exact hg.elim

noncomputable def L_scell : Sums cod := (12, .p s_scell) :: L_vcheck
noncomputable def C_scell : Cfg cod := mkC L_scell

theorem L_scell_ok : Snd Try.prog cod L_scell := .cons scell_sound L_vcheck_ok



def cuts_svis : Cuts := []

theorem svis_t0 (cx cy s w h : Int) (x y : Int) : symF C_scell cuts_svis Try.f13.results.toList 0 400 [.code (codeOf Try.f13)] ⟨argsS Try.f13 [.agg [.int .i64 cx, .int .i64 cy, .int .i64 s, .int .i64 w, .int .i64 h], .agg [.int .i64 x, .int .i64 y]], ([] : Heap cod)⟩ =
 cond (decide (0 ≤ x)) (
 cond (decide (x < w)) (
  cond (decide (0 ≤ y)) (
   .ret (.fin (.c (.bool (decide (y < h)))) [])) (
   .ret (.fin (.c (.bool false)) []))) (
  .ret (.fin (.c (.bool false)) []))) (
 .ret (.fin (.c (.bool false)) [])) := by kernel_rfl



theorem svis_run (cx cy s w h : Int) (x y : Int) (b0 : Base) (hb : b0.n = 0)  : Sym.Runs Try.prog b0 [.code (codeOf Try.f13)] ⟨argsS Try.f13 [.agg [.int .i64 cx, .int .i64 cy, .int .i64 s, .int .i64 w, .int .i64 h], .agg [.int .i64 x, .int .i64 y]], ([] : Heap cod)⟩ (Sym.Ends Try.prog Try.f13 0 (.c (.bool (F.vis x y w h))) []) := by
  refine Runs.go (cfg := C_scell) L_scell_ok mixed cuts_svis 400 hb (svis_t0 cx cy s w h x y) ?_
  unfold F.vis F.inb
  have e1 : (x ≤ w - 1) = (x < w) := propext (by omega)
  have e2 : (y ≤ h - 1) = (y < h) := propext (by omega)
  simp only [T.wp, T.wp_cond, Aft, Int.ofNat_eq_natCast, decide_eq_true_eq, and_true, true_and, Nat.zero_add, Bool.not_eq_true', decide_eq_false_iff_not, e1, e2]
  by_cases h1 : 0 ≤ x <;> by_cases h2 : x < w <;> by_cases h3 : 0 ≤ y <;> by_cases h4 : y < h <;> simp [h1, h2, h3, h4]



noncomputable def s_svis : Summ cod := fun args H => match args, H with
  | [.agg [.int .i64 cx, .int .i64 cy, .int .i64 s, .int .i64 w, .int .i64 h], .agg [.int .i64 x, .int .i64 y]], [] => .ret (.c (.bool (F.vis x y w h)), [])
  | _, _ => .fail


theorem svis_sound : Sound Try.prog cod 13 s_svis := sound_runs (cfg := C_scell) L_scell_ok mixed Try.func13 rfl rfl _ fun args H r news hg b0 hb => by
  unfold s_svis at hg
  split at hg
  · skip
    cases hg
    exact svis_run _ _ _ _ _ _ _ b0 hb 
  · exact hg.elim

noncomputable def L_svis : Sums cod := (13, .p s_svis) :: L_scell
noncomputable def C_svis : Cfg cod := mkC L_svis

theorem L_svis_ok : Snd Try.prog cod L_svis := .cons svis_sound L_scell_ok



def cuts_verr : Cuts := []

theorem verr_t0 (cx cy s w h : Int) : symF C_svis cuts_verr Try.f6.results.toList 0 400 [.code (codeOf Try.f6)] ⟨argsS Try.f6 [.agg [.int .i64 cx, .int .i64 cy, .int .i64 s, .int .i64 w, .int .i64 h]], ([] : Heap cod)⟩ =
 cond (!F.placed cx cy) (
 .ret (.fin (.c (.int .i64 4)) [])) (
 cond (!F.inb s 1 50000) (
  .ret (.fin (.c (.int .i64 4)) [])) (
  cond (!F.inb w 1 60) (
   .ret (.fin (.c (.int .i64 4)) [])) (
   cond (!F.inb h 1 60) (
    .ret (.fin (.c (.int .i64 4)) [])) (
    .ret (.fin (.c (.int .i64 0)) []))))) := by kernel_rfl



theorem verr_run (cx cy s w h : Int) (b0 : Base) (hb : b0.n = 0)  : Sym.Runs Try.prog b0 [.code (codeOf Try.f6)] ⟨argsS Try.f6 [.agg [.int .i64 cx, .int .i64 cy, .int .i64 s, .int .i64 w, .int .i64 h]], ([] : Heap cod)⟩ (Sym.Ends Try.prog Try.f6 0 (.c (.int .i64 (F.vE cx cy s w h))) []) := by
  refine Runs.go (cfg := C_svis) L_svis_ok mixed cuts_verr 400 hb (verr_t0 cx cy s w h) ?_
  have hp : F.placed cx cy = decide (F.pt cx cy = 0) := by unfold F.placed F.pt; cases F.inb cx (-1000000) 1000000 <;> cases F.inb cy (-1000000) 1000000 <;> rfl
  unfold F.vE F.vok
  simp only [T.wp, T.wp_cond, Aft, Int.ofNat_eq_natCast, decide_eq_true_eq, and_true, true_and, Nat.zero_add, Bool.not_eq_true', decide_eq_false_iff_not, hp]
  by_cases h0 : F.pt cx cy = 0 <;> cases h1 : F.inb s 1 50000 <;> cases h2 : F.inb w 1 60 <;> cases h3 : F.inb h 1 60 <;> simp [h0, h1, h2, h3]



noncomputable def s_verr : Summ cod := fun args H => match args, H with
  | [.agg [.int .i64 cx, .int .i64 cy, .int .i64 s, .int .i64 w, .int .i64 h]], [] => .ret (.c (.int .i64 (F.vE cx cy s w h)), [])
  | _, _ => .fail


theorem verr_sound : Sound Try.prog cod 6 s_verr := sound_runs (cfg := C_svis) L_svis_ok mixed Try.func6 rfl rfl _ fun args H r news hg b0 hb => by
  unfold s_verr at hg
  split at hg
  · skip
    cases hg
    exact verr_run _ _ _ _ _ b0 hb 
  · exact hg.elim

noncomputable def L_verr : Sums cod := (6, .p s_verr) :: L_svis
noncomputable def C_verr : Cfg cod := mkC L_verr

theorem L_verr_ok : Snd Try.prog cod L_verr := .cons verr_sound L_svis_ok



def cuts_vcell : Cuts := []

theorem vcell_t0 (cx cy s w h : Int) (px py : Int) : symF C_verr cuts_vcell Try.f15.results.toList 0 400 [.code (codeOf Try.f15)] ⟨argsS Try.f15 [.agg [.int .i64 cx, .int .i64 cy, .int .i64 s, .int .i64 w, .int .i64 h], .agg [.int .i64 px, .int .i64 py]], ([] : Heap cod)⟩ =
.need (i64ok (px - cx)) (
.need (((0 : Int) < s ∧ ((-4000000000000000000 : Int) ≤ px - cx ∧ (px - cx ≤ 4000000000000000000 ∧ s ≤ 4000000000000000000)))) (
.need ((2 : Int) ≠ 0) (
.need (i64ok (Int.tdiv w 2)) (
.need (i64ok ((px - cx) / s + Int.tdiv w 2)) (
.need (i64ok (py - cy)) (
.need (((0 : Int) < s ∧ ((-4000000000000000000 : Int) ≤ py - cy ∧ (py - cy ≤ 4000000000000000000 ∧ s ≤ 4000000000000000000)))) (
.need ((2 : Int) ≠ 0) (
.need (i64ok (Int.tdiv h 2)) (
.need (i64ok ((py - cy) / s + Int.tdiv h 2)) (
.ret (.fin (.agg [.int .i64 ((px - cx) / s + Int.tdiv w 2), .int .i64 ((py - cy) / s + Int.tdiv h 2)]) []))))))))))) := by kernel_rfl



theorem vcell_run (cx cy s w h : Int) (px py : Int) (b0 : Base) (hb : b0.n = 0) (h0 : F.vok cx cy s w h = true ∧ F.pt px py = 0) : Sym.Runs Try.prog b0 [.code (codeOf Try.f15)] ⟨argsS Try.f15 [.agg [.int .i64 cx, .int .i64 cy, .int .i64 s, .int .i64 w, .int .i64 h], .agg [.int .i64 px, .int .i64 py]], ([] : Heap cod)⟩ (Sym.Ends Try.prog Try.f15 0 (.agg [.int .i64 (F.scX cx px s w), .int .i64 (F.scX cy py s h)]) []) := by
  refine Runs.go (cfg := C_verr) L_verr_ok mixed cuts_vcell 400 hb (vcell_t0 cx cy s w h px py) ?_
  obtain ⟨h1, h2⟩ := h0
  unfold F.vok F.inb at h1
  simp only [Bool.and_eq_true, decide_eq_true_eq] at h1
  obtain ⟨g0, ⟨g1, g2⟩, ⟨g3, g4⟩, g5, g6⟩ := h1
  have c1 := F.pt_bd g0
  have c2 := F.pt_bd h2
  have d1 := F.div_bd (a := px - cx) (b := s) (by omega) (by omega)
  have d2 := F.div_bd (a := py - cy) (b := s) (by omega) (by omega)
  have t1 := F.tdiv_half (n := w) ⟨g3, g4⟩
  have t2 := F.tdiv_half (n := h) ⟨g5, g6⟩
  simp only [T.wp, T.wp_cond, Aft, Int.ofNat_eq_natCast, decide_eq_true_eq, and_true, true_and, Nat.zero_add, Bool.not_eq_true', decide_eq_false_iff_not]
  unfold i64ok F.scX
  exact ⟨by omega, ⟨by omega, by omega, by omega, by omega⟩, by decide, by omega, by omega, by omega, ⟨by omega, by omega, by omega, by omega⟩, by decide, by omega, by omega, rfl⟩



noncomputable def s_vcell : Summ cod := fun args H => match args, H with
  | [.agg [.int .i64 cx, .int .i64 cy, .int .i64 s, .int .i64 w, .int .i64 h], .agg [.int .i64 px, .int .i64 py]], [] => .need ((F.vok cx cy s w h = true ∧ F.pt px py = 0)) (.ret (.agg [.int .i64 (F.scX cx px s w), .int .i64 (F.scX cy py s h)], []))
  | _, _ => .fail


theorem vcell_sound : Sound Try.prog cod 15 s_vcell := sound_runs (cfg := C_verr) L_verr_ok mixed Try.func15 rfl rfl _ fun args H r news hg b0 hb => by
  unfold s_vcell at hg
  split at hg
  · skip
    simp only [T.gives, T.wp, Prod.mk.injEq] at hg
    obtain ⟨q0, rfl, rfl⟩ := hg
    exact vcell_run _ _ _ _ _ _ _ b0 hb (by assumption)
  · exact hg.elim

noncomputable def L_vcell : Sums cod := (15, .p s_vcell) :: L_verr
noncomputable def C_vcell : Cfg cod := mkC L_vcell

theorem L_vcell_ok : Snd Try.prog cod L_vcell := .cons vcell_sound L_verr_ok



def cuts_rcut : Cuts := []

theorem rcut_t0 (n : Int) (lo : Int) (hi : Int) : symF C_vcell cuts_rcut Try.f5.results.toList 0 400 [.code (codeOf Try.f5)] ⟨argsS Try.f5 [.c (.int .i64 n), .c (.int .i64 lo), .c (.int .i64 hi)], ([] : Heap cod)⟩ =
.need (i64ok (hi - lo)) (
.need (i64ok (hi - lo + 1)) (
.need (hi - lo + 1 ≠ 0) (
 cond (decide (Int.tmod n (hi - lo + 1) < 0)) (
 .need (i64ok (Int.tmod n (hi - lo + 1) + (hi - lo + 1))) (
 .need (i64ok (lo + (Int.tmod n (hi - lo + 1) + (hi - lo + 1)))) (
 .ret (.fin (.c (.int .i64 (lo + (Int.tmod n (hi - lo + 1) + (hi - lo + 1))))) [])))) (
 .need (i64ok (lo + Int.tmod n (hi - lo + 1))) (
 .ret (.fin (.c (.int .i64 (lo + Int.tmod n (hi - lo + 1)))) [])))))) := by kernel_rfl



theorem rcut_run (n : Int) (lo : Int) (hi : Int) (b0 : Base) (hb : b0.n = 0) (h0 : lo = 1 ∧ hi = 20) : Sym.Runs Try.prog b0 [.code (codeOf Try.f5)] ⟨argsS Try.f5 [.c (.int .i64 n), .c (.int .i64 lo), .c (.int .i64 hi)], ([] : Heap cod)⟩ (Sym.Ends Try.prog Try.f5 0 (.c (.int .i64 (1 + n % 20))) []) := by
  refine Runs.go (cfg := C_vcell) L_vcell_ok mixed cuts_rcut 400 hb (rcut_t0 n lo hi) ?_
  obtain ⟨rfl, rfl⟩ := h0
  simp only [T.wp, T.wp_cond, Aft, Int.ofNat_eq_natCast, decide_eq_true_eq, and_true, true_and, Nat.zero_add, Bool.not_eq_true', decide_eq_false_iff_not]
  rw [show (20 : Int) - 1 + 1 = 20 by decide]
  have hm := Int.tmod_eq_emod (a := n) (b := 20)
  generalize n.tmod 20 = q at *
  refine ⟨by unfold i64ok; omega, by unfold i64ok; omega, by decide, ?_⟩
  by_cases hq : 0 ≤ n ∨ (20 : Int) ∣ n
  · rw [if_pos hq] at hm
    simp only [Int.natCast_zero, Int.sub_zero] at hm
    refine ite_no (by omega) ⟨by unfold i64ok; omega, ?_⟩
    rw [show q = n % 20 by omega]
  · rw [if_neg hq, show (((20 : Int).natAbs : Nat) : Int) = 20 by rfl] at hm
    refine ite_yes (by omega) ⟨by unfold i64ok; omega, by unfold i64ok; omega, ?_⟩
    rw [show q + 20 = n % 20 by omega]



noncomputable def s_rcut : Summ cod := fun args H => match args, H with
  | [.c (.int .i64 n), .c (.int .i64 lo), .c (.int .i64 hi)], [] => .need ((lo = 1 ∧ hi = 20)) (.ret (.c (.int .i64 (1 + n % 20)), []))
  | _, _ => .fail


theorem rcut_sound : Sound Try.prog cod 5 s_rcut := sound_runs (cfg := C_vcell) L_vcell_ok mixed Try.func5 rfl rfl _ fun args H r news hg b0 hb => by
  unfold s_rcut at hg
  split at hg
  · skip
    simp only [T.gives, T.wp, Prod.mk.injEq] at hg
    obtain ⟨q0, rfl, rfl⟩ := hg
    exact rcut_run _ _ _ b0 hb (by assumption)
  · exact hg.elim

noncomputable def L_rcut : Sums cod := (5, .p s_rcut) :: L_vcell
noncomputable def C_rcut : Cfg cod := mkC L_rcut

theorem L_rcut_ok : Snd Try.prog cod L_rcut := .cons rcut_sound L_vcell_ok


end
end Go.Proofs.Ytbdhppceihcbnaa
