/- Part of a claim: lemmas on the way to its theorem; each states its own conditions. -/
import Derived.Test.YtffcfbamcaoidaaGp
namespace Go.Proofs.Ytffcfbamcaoidaa
open Sym Go.RowKit
noncomputable section
set_option maxRecDepth 100000
set_option maxHeartbeats 4000000

namespace F
def vok (cx cy s w h : Int) : Bool := decide (pt cx cy = 0) && (inb s 1 50000 && (inb w 1 60 && inb h 1 60))
def vE (cx cy s w h : Int) : Int := if vok cx cy s w h then 0 else 4
def scX (cx px s w : Int) : Int := (px - cx) / s + w.tdiv 2
def vis (x y w h : Int) : Bool := inb x 0 (w - 1) && inb y 0 (h - 1)
def scE (cx cy s w h px py : Int) : Int := if vok cx cy s w h && decide (pt px py = 0) then 0 else 4
def scV (cx cy s w h px py : Int) : Bool := decide (scE cx cy s w h px py = 0) && vis (scX cx px s w) (scX cy py s h) w h
end F


theorem F.pt_bd {x y : Int} (h : F.pt x y = 0) : (-1000000 ≤ x ∧ x ≤ 1000000) ∧ (-1000000 ≤ y ∧ y ≤ 1000000) := by
  unfold F.pt F.inb at h
  split at h
  · rename_i c
    simp only [Bool.and_eq_true, decide_eq_true_eq] at c
    exact c
  · cases h
theorem F.div_bd {a b : Int} (hb : 1 ≤ b) (ha : -2000000 ≤ a ∧ a ≤ 2000000) : -2000000 ≤ a / b ∧ a / b ≤ 2000000 := by
  constructor
  · rw [Int.le_ediv_iff_mul_le (by omega)]
    have : -2000000 * b ≤ -2000000 * 1 := Int.mul_le_mul_of_nonpos_left (by omega) hb
    omega
  · have : a / b < 2000001 := by
      rw [Int.ediv_lt_iff_lt_mul (by omega)]
      have : 2000001 * 1 ≤ 2000001 * b := Int.mul_le_mul_of_nonneg_left hb (by omega)
      omega
    omega
theorem F.tdiv_half {n : Int} (h : 1 ≤ n ∧ n ≤ 60) : 0 ≤ n.tdiv 2 ∧ n.tdiv 2 ≤ 30 := by
  rw [Int.tdiv_eq_ediv_of_nonneg (by omega)]
  omega


def cuts_vcheck : Cuts := []

theorem vcheck_t0 (cx cy s w h : Int) : symF C_equal cuts_vcheck Try.f74.results.toList 0 400 [.code (codeOf Try.f74)] ⟨argsS Try.f74 [.agg [.int .i64 cx, .int .i64 cy, .int .i64 s, .int .i64 w, .int .i64 h]], ([] : Heap cod)⟩ =
 cond (!decide (F.pt cx cy = 0)) (
 .ret (.fin (.c (.int .i64 4)) [])) (
 cond (decide (s < 1)) (
  .ret (.fin (.c (.int .i64 4)) [])) (
  cond (decide (50000 < s)) (
   .ret (.fin (.c (.int .i64 4)) [])) (
   cond (decide (w < 1)) (
    .ret (.fin (.c (.int .i64 4)) [])) (
    cond (decide (60 < w)) (
     .ret (.fin (.c (.int .i64 4)) [])) (
     cond (decide (h < 1)) (
      .ret (.fin (.c (.int .i64 4)) [])) (
      cond (decide (60 < h)) (
       .ret (.fin (.c (.int .i64 4)) [])) (
       .ret (.fin (.c (.int .i64 0)) [])))))))) := by kernel_rfl



theorem vcheck_run (cx cy s w h : Int) (b0 : Base) (hb : b0.n = 0)  : Sym.Runs Try.prog b0 [.code (codeOf Try.f74)] ⟨argsS Try.f74 [.agg [.int .i64 cx, .int .i64 cy, .int .i64 s, .int .i64 w, .int .i64 h]], ([] : Heap cod)⟩ (Sym.Ends Try.prog Try.f74 0 (.c (.int .i64 (F.vE cx cy s w h))) []) := by
  refine Runs.go (cfg := C_equal) L_equal_ok mixed cuts_vcheck 400 hb (vcheck_t0 cx cy s w h) ?_
  unfold F.vE F.vok F.inb
  simp only [T.wp, T.wp_cond, Aft, Int.ofNat_eq_natCast, decide_eq_true_eq, and_true, true_and, Nat.zero_add, Bool.not_eq_true', decide_eq_false_iff_not]
  by_cases h0 : F.pt cx cy = 0 <;> by_cases h1 : s < 1 <;> by_cases h2 : 50000 < s <;> by_cases h3 : w < 1 <;> by_cases h4 : 60 < w <;> by_cases h5 : h < 1 <;> by_cases h6 : 60 < h <;> simp_all <;> omega



noncomputable def s_vcheck : Summ cod := fun args H => match args, H with
  | [.agg [.int .i64 cx, .int .i64 cy, .int .i64 s, .int .i64 w, .int .i64 h]], [] => .ret (.c (.int .i64 (F.vE cx cy s w h)), [])
  | _, _ => .fail


theorem vcheck_sound : Sound Try.prog cod 74 s_vcheck := sound_runs (cfg := C_equal) L_equal_ok mixed Try.func74 rfl rfl _ fun args H r news hg b0 hb => by
  unfold s_vcheck at hg
  split at hg
  · skip
    cases hg
    exact vcheck_run _ _ _ _ _ b0 hb 
  · exact hg.elim

noncomputable def L_vcheck : Sums cod := (74, .p s_vcheck) :: L_equal
noncomputable def C_vcheck : Cfg cod := mkC L_vcheck

theorem L_vcheck_ok : Snd Try.prog cod L_vcheck := .cons vcheck_sound L_equal_ok



def cuts_scell : Cuts := []

theorem scell_t0 (cx cy s w h : Int) (px py : Int) : symF C_vcheck cuts_scell Try.f76.results.toList 0 400 [.code (codeOf Try.f76)] ⟨argsS Try.f76 [.agg [.int .i64 cx, .int .i64 cy, .int .i64 s, .int .i64 w, .int .i64 h], .agg [.int .i64 px, .int .i64 py]], ([] : Heap cod)⟩ =
.need (i64ok (px - cx)) (
.need (((0 : Int) < s ∧ i64ok (px - cx))) (
.need (i64ok (py - cy)) (
.need (((0 : Int) < s ∧ i64ok (py - cy))) (
.need ((2 : Int) ≠ 0) (
.need (i64ok (Int.tdiv w 2)) (
.need (i64ok ((px - cx) / s + Int.tdiv w 2)) (
.need ((2 : Int) ≠ 0) (
.need (i64ok (Int.tdiv h 2)) (
.need (i64ok ((py - cy) / s + Int.tdiv h 2)) (
.ret (.fin (.agg [.int .i64 ((px - cx) / s + Int.tdiv w 2), .int .i64 ((py - cy) / s + Int.tdiv h 2)]) []))))))))))) := by kernel_rfl



theorem scell_run (cx cy s w h : Int) (px py : Int) (b0 : Base) (hb : b0.n = 0) (h0 : F.vok cx cy s w h = true ∧ F.pt px py = 0) : Sym.Runs Try.prog b0 [.code (codeOf Try.f76)] ⟨argsS Try.f76 [.agg [.int .i64 cx, .int .i64 cy, .int .i64 s, .int .i64 w, .int .i64 h], .agg [.int .i64 px, .int .i64 py]], ([] : Heap cod)⟩ (Sym.Ends Try.prog Try.f76 0 (.agg [.int .i64 (F.scX cx px s w), .int .i64 (F.scX cy py s h)]) []) := by
  refine Runs.go (cfg := C_vcheck) L_vcheck_ok mixed cuts_scell 400 hb (scell_t0 cx cy s w h px py) ?_
  obtain ⟨h1, h2⟩ := h0
  unfold F.vok F.inb at h1
  simp only [Bool.and_eq_true, decide_eq_true_eq] at h1
  obtain ⟨g0, ⟨g1, g2⟩, ⟨g3, g4⟩, g5, g6⟩ := h1
  have c1 := F.pt_bd g0
  have c2 := F.pt_bd h2
  have d1 := F.div_bd (a := px - cx) (b := s) (by omega) (by omega)
  have d2 := F.div_bd (a := py - cy) (b := s) (by omega) (by omega)
  have t1 := F.tdiv_half (n := w) ⟨g3, g4⟩
  have t2 := F.tdiv_half (n := h) ⟨g5, g6⟩
  simp only [T.wp, Aft]
  unfold i64ok F.scX
  exact ⟨by omega, ⟨by omega, by omega⟩, by omega, ⟨by omega, by omega⟩, by decide, by omega, by omega, by decide, by omega, by omega, rfl, trivial⟩



noncomputable def s_scell : Summ cod := fun args H => match args, H with
  | [.agg [.int .i64 cx, .int .i64 cy, .int .i64 s, .int .i64 w, .int .i64 h], .agg [.int .i64 px, .int .i64 py]], [] => .need ((F.vok cx cy s w h = true ∧ F.pt px py = 0)) (.ret (.agg [.int .i64 (F.scX cx px s w), .int .i64 (F.scX cy py s h)], []))
  | _, _ => .fail


theorem scell_sound : Sound Try.prog cod 76 s_scell := sound_runs (cfg := C_vcheck) L_vcheck_ok mixed Try.func76 rfl rfl _ fun args H r news hg b0 hb => by
  unfold s_scell at hg
  split at hg
  · skip
    simp only [T.gives, T.wp, Prod.mk.injEq] at hg
    obtain ⟨q0, rfl, rfl⟩ := hg
    exact scell_run _ _ _ _ _ _ _ b0 hb (by assumption)
  · exact hg.elim

noncomputable def L_scell : Sums cod := (76, .p s_scell) :: L_vcheck
noncomputable def C_scell : Cfg cod := mkC L_scell

theorem L_scell_ok : Snd Try.prog cod L_scell := .cons scell_sound L_vcheck_ok



def cuts_svis : Cuts := []

theorem svis_t0 (cx cy s w h : Int) (x y : Int) : symF C_scell cuts_svis Try.f77.results.toList 0 400 [.code (codeOf Try.f77)] ⟨argsS Try.f77 [.agg [.int .i64 cx, .int .i64 cy, .int .i64 s, .int .i64 w, .int .i64 h], .agg [.int .i64 x, .int .i64 y]], ([] : Heap cod)⟩ =
 cond (decide (0 ≤ x)) (
 cond (decide (x < w)) (
  cond (decide (0 ≤ y)) (
   .ret (.fin (.c (.bool (decide (y < h)))) [])) (
   .ret (.fin (.c (.bool false)) []))) (
  .ret (.fin (.c (.bool false)) []))) (
 .ret (.fin (.c (.bool false)) [])) := by kernel_rfl



theorem svis_run (cx cy s w h : Int) (x y : Int) (b0 : Base) (hb : b0.n = 0)  : Sym.Runs Try.prog b0 [.code (codeOf Try.f77)] ⟨argsS Try.f77 [.agg [.int .i64 cx, .int .i64 cy, .int .i64 s, .int .i64 w, .int .i64 h], .agg [.int .i64 x, .int .i64 y]], ([] : Heap cod)⟩ (Sym.Ends Try.prog Try.f77 0 (.c (.bool (F.vis x y w h))) []) := by
  refine Runs.go (cfg := C_scell) L_scell_ok mixed cuts_svis 400 hb (svis_t0 cx cy s w h x y) ?_
  unfold F.vis F.inb
  have e1 : (x ≤ w - 1) = (x < w) := propext (by omega)
  have e2 : (y ≤ h - 1) = (y < h) := propext (by omega)
  simp only [T.wp, T.wp_cond, Aft, Int.ofNat_eq_natCast, decide_eq_true_eq, and_true, true_and, Nat.zero_add, Bool.not_eq_true', decide_eq_false_iff_not, e1, e2]
  by_cases h1 : 0 ≤ x <;> by_cases h2 : x < w <;> by_cases h3 : 0 ≤ y <;> by_cases h4 : y < h <;> simp [h1, h2, h3, h4]



noncomputable def s_svis : Summ cod := fun args H => match args, H with
  | [.agg [.int .i64 cx, .int .i64 cy, .int .i64 s, .int .i64 w, .int .i64 h], .agg [.int .i64 x, .int .i64 y]], [] => .ret (.c (.bool (F.vis x y w h)), [])
  | _, _ => .fail


theorem svis_sound : Sound Try.prog cod 77 s_svis := sound_runs (cfg := C_scell) L_scell_ok mixed Try.func77 rfl rfl _ fun args H r news hg b0 hb => by
  unfold s_svis at hg
  split at hg
  · skip
    cases hg
    exact svis_run _ _ _ _ _ _ _ b0 hb 
  · exact hg.elim

noncomputable def L_svis : Sums cod := (77, .p s_svis) :: L_scell
noncomputable def C_svis : Cfg cod := mkC L_svis

theorem L_svis_ok : Snd Try.prog cod L_svis := .cons svis_sound L_scell_ok



def cuts_sCell : Cuts := []

theorem sCell_t0 (cx cy s w h : Int) (px py : Int) : symF C_svis cuts_sCell Try.f28.results.toList 0 400 [.code (codeOf Try.f28)] ⟨argsS Try.f28 [.agg [.int .i64 cx, .int .i64 cy, .int .i64 s, .int .i64 w, .int .i64 h], .agg [.int .i64 px, .int .i64 py]], ([] : Heap cod)⟩ =
 cond (!decide (F.vE cx cy s w h = 0)) (
 .ret (.fin (.tup [.agg [.int .i64 0, .int .i64 0], .c (.bool false), .c (.int .i64 (F.vE cx cy s w h))]) [])) (
 cond (!decide (F.pt px py = 0)) (
  .ret (.fin (.tup [.agg [.int .i64 0, .int .i64 0], .c (.bool false), .c (.int .i64 (F.pt px py))]) [])) (
  .need ((F.vok cx cy s w h = true ∧ F.pt px py = 0)) (
  .ret (.fin (.tup [.agg [.int .i64 (F.scX cx px s w), .int .i64 (F.scX cy py s h)], .c (.bool (F.vis (F.scX cx px s w) (F.scX cy py s h) w h)), .c (.int .i64 0)]) [])))) := by kernel_rfl



theorem sCell_run (cx cy s w h : Int) (px py : Int) (b0 : Base) (hb : b0.n = 0)  : Sym.Runs Try.prog b0 [.code (codeOf Try.f28)] ⟨argsS Try.f28 [.agg [.int .i64 cx, .int .i64 cy, .int .i64 s, .int .i64 w, .int .i64 h], .agg [.int .i64 px, .int .i64 py]], ([] : Heap cod)⟩ (Sym.Ends Try.prog Try.f28 0 (.tup [.agg [.int .i64 (F.z (F.scE cx cy s w h px py) (F.scX cx px s w)), .int .i64 (F.z (F.scE cx cy s w h px py) (F.scX cy py s h))], .c (.bool (F.scV cx cy s w h px py)), .c (.int .i64 (F.scE cx cy s w h px py))]) []) := by
  refine Runs.go (cfg := C_svis) L_svis_ok mixed cuts_sCell 400 hb (sCell_t0 cx cy s w h px py) ?_
  have hp : F.pt px py = 0 ∨ F.pt px py = 4 := by unfold F.pt; split <;> simp
  unfold F.scV F.scE F.vE
  simp only [T.wp, T.wp_cond, Aft]
  cases h0 : F.vok cx cy s w h <;> rcases hp with h1 | h1 <;> simp [h0, h1, F.z] <;> rfl



noncomputable def s_sCell : Summ cod := fun args H => match args, H with
  | [.agg [.int .i64 cx, .int .i64 cy, .int .i64 s, .int .i64 w, .int .i64 h], .agg [.int .i64 px, .int .i64 py]], [] => .ret (.tup [.agg [.int .i64 (F.z (F.scE cx cy s w h px py) (F.scX cx px s w)), .int .i64 (F.z (F.scE cx cy s w h px py) (F.scX cy py s h))], .c (.bool (F.scV cx cy s w h px py)), .c (.int .i64 (F.scE cx cy s w h px py))], [])
  | _, _ => .fail


theorem sCell_sound : Sound Try.prog cod 28 s_sCell := sound_runs (cfg := C_svis) L_svis_ok mixed Try.func28 rfl rfl _ fun args H r news hg b0 hb => by
  unfold s_sCell at hg
  split at hg
  · skip
    cases hg
    exact sCell_run _ _ _ _ _ _ _ b0 hb 
  · exact hg.elim

noncomputable def L_sCell : Sums cod := (28, .p s_sCell) :: L_svis
noncomputable def C_sCell : Cfg cod := mkC L_sCell

theorem L_sCell_ok : Snd Try.prog cod L_sCell := .cons sCell_sound L_svis_ok



def cuts_lBox : Cuts := []

theorem lBox_t0 (x y w h : Int) (s : Int) : symF C_sCell cuts_lBox Try.f32.results.toList 0 400 [.code (codeOf Try.f32)] ⟨argsS Try.f32 [.agg [.int .i64 x, .int .i64 y, .int .i64 w, .int .i64 h], .c (.int .i64 s)], ([] : Heap cod)⟩ =
.need (((0 = 0 ∧ 1 = 1) ∧ F.l64 [(x, y, w, h)])) (
 cond (!decide (F.lchk [(x, y, w, h)] = 0)) (
 .ret (.fin (.tup [.agg [.int .i64 0, .int .i64 0, .int .i64 0, .int .i64 0], .c (.int .i64 (F.lchk [(x, y, w, h)]))]) [])) (
 cond (decide (s < 0)) (
  .ret (.fin (.tup [.agg [.int .i64 0, .int .i64 0, .int .i64 0, .int .i64 0], .c (.int .i64 1)]) [])) (
  cond (decide (8 ≤ s)) (
   .ret (.fin (.tup [.agg [.int .i64 0, .int .i64 0, .int .i64 0, .int .i64 0], .c (.int .i64 1)]) [])) (
   .need (F.lab x y w h s) (
   .ret (.fin (.tup [.agg [.int .i64 (F.bX x y w h s), .int .i64 (F.bY x y w h s), .int .i64 w, .int .i64 h], .c (.int .i64 0)]) [])))))) := by kernel_rfl



theorem lBox_run (x y w h : Int) (s : Int) (b0 : Base) (hb : b0.n = 0) (h0 : F.lab x y w h s) : Sym.Runs Try.prog b0 [.code (codeOf Try.f32)] ⟨argsS Try.f32 [.agg [.int .i64 x, .int .i64 y, .int .i64 w, .int .i64 h], .c (.int .i64 s)], ([] : Heap cod)⟩ (Sym.Ends Try.prog Try.f32 0 (.tup [.agg [.int .i64 (F.bX x y w h s), .int .i64 (F.bY x y w h s), .int .i64 w, .int .i64 h], .c (.int .i64 0)]) []) := by
  refine Runs.go (cfg := C_sCell) L_sCell_ok mixed cuts_lBox 400 hb (lBox_t0 x y w h s) ?_
  obtain ⟨h1, h2, h3, h4, h5, h6⟩ := h0
  have e : F.lchk [(x, y, w, h)] = 0 := by
    have : F.lin (x, y, w, h) = true := by
      unfold F.lin
      simp only [Bool.and_eq_true, decide_eq_true_eq]
      exact ⟨h1, h2, h3, h4⟩
    show F.lck [(x, y, w, h)] 1 0 = 0
    rw [F.lck]
    show (if F.lin (x, y, w, h) = true then F.lck [(x, y, w, h)] 0 1 else 4) = 0
    rw [if_pos this]
    rfl
  have hl : F.l64 [(x, y, w, h)] := by
    intro z hz
    rw [List.mem_singleton.mp hz]
    unfold i64ok
    simp only
    omega
  simp only [T.wp, T.wp_cond, Aft, Int.ofNat_eq_natCast, decide_eq_true_eq, and_true, true_and, Nat.zero_add, Bool.not_eq_true', decide_eq_false_iff_not, e]
  refine ⟨hl, ?_⟩
  rw [if_neg (by simp), if_neg (by omega), if_neg (by omega)]
  exact ⟨h1, h2, h3, h4, h5, h6⟩



noncomputable def s_lBox : Summ cod := fun args H => match args, H with
  | [.agg [.int .i64 x, .int .i64 y, .int .i64 w, .int .i64 h], .c (.int .i64 s)], [] => .need ((F.lab x y w h s)) (.ret (.tup [.agg [.int .i64 (F.bX x y w h s), .int .i64 (F.bY x y w h s), .int .i64 w, .int .i64 h], .c (.int .i64 0)], []))
  | _, _ => .fail


theorem lBox_sound : Sound Try.prog cod 32 s_lBox := sound_runs (cfg := C_sCell) L_sCell_ok mixed Try.func32 rfl rfl _ fun args H r news hg b0 hb => by
  unfold s_lBox at hg
  split at hg
  · skip
    simp only [T.gives, T.wp, Prod.mk.injEq] at hg
    obtain ⟨q0, rfl, rfl⟩ := hg
    exact lBox_run _ _ _ _ _ b0 hb (by assumption)
  · exact hg.elim

noncomputable def L_lBox : Sums cod := (32, .p s_lBox) :: L_sCell
noncomputable def C_lBox : Cfg cod := mkC L_lBox

theorem L_lBox_ok : Snd Try.prog cod L_lBox := .cons lBox_sound L_sCell_ok


end
end Go.Proofs.Ytffcfbamcaoidaa
