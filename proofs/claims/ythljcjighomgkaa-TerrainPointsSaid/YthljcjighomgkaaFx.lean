/- Part of a claim: lemmas on the way to its theorem; each states its own conditions. -/
import Derived.Test.YthljcjighomgkaaFw
namespace Go.Proofs.Ythljcjighomgkaa
open Sym Go.RowKit
noncomputable section
set_option maxRecDepth 100000
set_option maxHeartbeats 4000000



def cuts_tlaw : Cuts := []

theorem tlaw_t0 (ax ay sz nx ny : Int) (l : List Int) (l_t : Bool) (px py : Int) (r : Int) : symF C_ttop cuts_tlaw Try.f7.results.toList 1 400 [.code (codeOf Try.f7)] ⟨argsS Try.f7 [.agg [.int .i64 ax, .int .i64 ay, .int .i64 sz, .int .i64 nx, .int .i64 ny, .slc 0 0 (List.length l) l_t], .agg [.int .i64 px, .int .i64 py], .c (.int .i64 r)], ([.inp 0 l] : Heap cod)⟩ =
.need ((0 = 0 ∧ 1 = 1)) (
.need ((0 = 0 ∧ 1 = 1)) (
.need ((10 : Int) ≠ 0) (
.need ((0 = 0 ∧ List.length l = List.length l)) (
.need ((0 = 0 ∧ List.length l = List.length l)) (
.need ((0 = 0 ∧ List.length l = List.length l)) (
.need ((0 = 0 ∧ List.length l = List.length l)) (
 cond (!decide (F.gridE ax ay sz nx ny l = F.gridE ax ay sz nx ny l)) (
 .ret (.fin (.c (.bool false)) [])) (
 cond (decide (F.gridE ax ay sz nx ny l = 0)) (
  cond (!F.placed px py) (
   cond (decide (F.htE ax ay sz nx ny l px py = 4)) (
    cond (decide (F.hiE ax ay sz nx ny l px py (Int.tmod r 10) = 4)) (
     cond (decide (F.z (F.htE ax ay sz nx ny l px py) (F.gnd ax ay sz nx ny l px py) = 0)) (
      .ret (.fin (.c (.bool (decide (F.z (F.hiE ax ay sz nx ny l px py (Int.tmod r 10)) (F.hiV ax ay sz nx ny l px py (Int.tmod r 10)) = 0)))) [])) (
      .ret (.fin (.c (.bool false)) []))) (
     .ret (.fin (.c (.bool false)) []))) (
    .ret (.fin (.c (.bool false)) []))) (
   cond (!decide (F.gridE ax ay sz nx ny l = 0)) (
    cond (decide (F.htE ax ay sz nx ny l px py = F.gridE ax ay sz nx ny l)) (
     cond (decide (F.hiE ax ay sz nx ny l px py (Int.tmod r 10) = F.gridE ax ay sz nx ny l)) (
      cond (decide (F.z (F.htE ax ay sz nx ny l px py) (F.gnd ax ay sz nx ny l px py) = 0)) (
       .ret (.fin (.c (.bool (decide (F.z (F.hiE ax ay sz nx ny l px py (Int.tmod r 10)) (F.hiV ax ay sz nx ny l px py (Int.tmod r 10)) = 0)))) [])) (
       .ret (.fin (.c (.bool false)) []))) (
      .ret (.fin (.c (.bool false)) []))) (
     .ret (.fin (.c (.bool false)) []))) (
    cond (!decide (F.htE ax ay sz nx ny l px py = 0)) (
     .ret (.fin (.c (.bool false)) [])) (
     .need (((0 = 0 ∧ List.length l = List.length l) ∧ (F.gridE ax ay sz nx ny l = 0 ∧ (((-2000000 : Int) ≤ px ∧ px ≤ 2000000) ∧ ((-2000000 : Int) ≤ py ∧ py ≤ 2000000))))) (
     cond (!decide (F.z (F.htE ax ay sz nx ny l px py) (F.gnd ax ay sz nx ny l px py) = F.gnd ax ay sz nx ny l px py)) (
      .ret (.fin (.c (.bool false)) [])) (
      cond (decide (Int.tmod r 10 < 0)) (
       cond (decide (F.hiE ax ay sz nx ny l px py (Int.tmod r 10) = 4)) (
        .ret (.fin (.c (.bool (decide (F.z (F.hiE ax ay sz nx ny l px py (Int.tmod r 10)) (F.hiV ax ay sz nx ny l px py (Int.tmod r 10)) = 0)))) [])) (
        .ret (.fin (.c (.bool false)) []))) (
       cond (decide (F.hiE ax ay sz nx ny l px py (Int.tmod r 10) = 0)) (
        .need (i64ok (nx * ny)) (
        cond (decide (40 < nx * ny)) (
         .ret (.fin (.c (.bool true)) [])) (
         .need (((0 = 0 ∧ List.length l = List.length l) ∧ (F.gridE ax ay sz nx ny l = 0 ∧ (((-1000000 : Int) ≤ px ∧ px ≤ 1000000) ∧ (((-1000000 : Int) ≤ py ∧ py ≤ 1000000) ∧ ((0 : Int) ≤ Int.tmod r 10 ∧ Int.tmod r 10 ≤ 1000)))))) (
         .ret (.fin (.c (.bool (decide   (F.z (F.hiE ax ay sz nx ny l px py (Int.tmod r 10)) (F.hiV ax ay sz nx ny l px py (Int.tmod r 10)) =     F.topV ax ay sz nx ny l px py (Int.tmod r 10))))) []))))) (
        .ret (.fin (.c (.bool false)) []))))))))) (
  cond (!decide (F.gridE ax ay sz nx ny l = 0)) (
   cond (decide (F.htE ax ay sz nx ny l px py = F.gridE ax ay sz nx ny l)) (
    cond (decide (F.hiE ax ay sz nx ny l px py (Int.tmod r 10) = F.gridE ax ay sz nx ny l)) (
     cond (decide (F.z (F.htE ax ay sz nx ny l px py) (F.gnd ax ay sz nx ny l px py) = 0)) (
      .ret (.fin (.c (.bool (decide (F.z (F.hiE ax ay sz nx ny l px py (Int.tmod r 10)) (F.hiV ax ay sz nx ny l px py (Int.tmod r 10)) = 0)))) [])) (
      .ret (.fin (.c (.bool false)) []))) (
     .ret (.fin (.c (.bool false)) []))) (
    .ret (.fin (.c (.bool false)) []))) (
   cond (!decide (F.htE ax ay sz nx ny l px py = 0)) (
    .ret (.fin (.c (.bool false)) [])) (
    .need (((0 = 0 ∧ List.length l = List.length l) ∧ (F.gridE ax ay sz nx ny l = 0 ∧ (((-2000000 : Int) ≤ px ∧ px ≤ 2000000) ∧ ((-2000000 : Int) ≤ py ∧ py ≤ 2000000))))) (
    cond (!decide (F.z (F.htE ax ay sz nx ny l px py) (F.gnd ax ay sz nx ny l px py) = F.gnd ax ay sz nx ny l px py)) (
     .ret (.fin (.c (.bool false)) [])) (
     cond (decide (Int.tmod r 10 < 0)) (
      cond (decide (F.hiE ax ay sz nx ny l px py (Int.tmod r 10) = 4)) (
       .ret (.fin (.c (.bool (decide (F.z (F.hiE ax ay sz nx ny l px py (Int.tmod r 10)) (F.hiV ax ay sz nx ny l px py (Int.tmod r 10)) = 0)))) [])) (
       .ret (.fin (.c (.bool false)) []))) (
      cond (decide (F.hiE ax ay sz nx ny l px py (Int.tmod r 10) = 0)) (
       .need (i64ok (nx * ny)) (
       cond (decide (40 < nx * ny)) (
        .ret (.fin (.c (.bool true)) [])) (
        .need (((0 = 0 ∧ List.length l = List.length l) ∧ (F.gridE ax ay sz nx ny l = 0 ∧ (((-1000000 : Int) ≤ px ∧ px ≤ 1000000) ∧ (((-1000000 : Int) ≤ py ∧ py ≤ 1000000) ∧ ((0 : Int) ≤ Int.tmod r 10 ∧ Int.tmod r 10 ≤ 1000)))))) (
        .ret (.fin (.c (.bool (decide   (F.z (F.hiE ax ay sz nx ny l px py (Int.tmod r 10)) (F.hiV ax ay sz nx ny l px py (Int.tmod r 10)) =     F.topV ax ay sz nx ny l px py (Int.tmod r 10))))) []))))) (
       .ret (.fin (.c (.bool false)) [])))))))))))))))) := by kernel_rfl



theorem hi_top {ax ay sz nx ny px py r : Int} {l : List Int} (e : F.gridE ax ay sz nx ny l = 0) (hr : 0 ≤ r) : F.hiV ax ay sz nx ny l px py r = F.topV ax ay sz nx ny l px py r := by
  obtain ⟨g1, g2, g3, _⟩ := gridE_zero e
  obtain ⟨n, rfl⟩ := Int.eq_ofNat_of_zero_le (show 0 ≤ nx by omega)
  obtain ⟨m, rfl⟩ := Int.eq_ofNat_of_zero_le (show 0 ≤ ny by omega)
  have h := TP.top_eq (ax := ax) (ay := ay) (s := sz) (px := px) (py := py) (r := r) (nx := n) (ny := m) (l := l) (by omega) hr
  unfold F.hiV F.topV
  rw [Int.toNat_natCast, Int.toNat_natCast]
  exact h
theorem tmod10 (r : Int) : -9 ≤ Int.tmod r 10 ∧ Int.tmod r 10 ≤ 9 := by
  have h1 := Int.lt_tmod_of_pos r (show (0 : Int) < 10 by decide)
  have h2 := Int.tmod_lt_of_pos r (show (0 : Int) < 10 by decide)
  omega
theorem tlaw_run (ax ay sz nx ny : Int) (l : List Int) (l_t : Bool) (px py : Int) (r : Int) (b0 : Base) (hb : b0.n = 1)  : Sym.Runs Try.prog b0 [.code (codeOf Try.f7)] ⟨argsS Try.f7 [.agg [.int .i64 ax, .int .i64 ay, .int .i64 sz, .int .i64 nx, .int .i64 ny, .slc 0 0 (List.length l) l_t], .agg [.int .i64 px, .int .i64 py], .c (.int .i64 r)], ([.inp 0 l] : Heap cod)⟩ (Sym.Ends Try.prog Try.f7 1 (.c (.bool true)) []) := by
  refine Runs.go (cfg := C_ttop) L_ttop_ok mixed cuts_tlaw 400 hb (tlaw_t0 ax ay sz nx ny l l_t px py r) ?_
  have r1 := tmod10 r
  generalize Int.tmod r 10 = R at *
  by_cases e : F.gridE ax ay sz nx ny l = 0
  · obtain ⟨g1, g2, g3, g4, g5, g6, g7⟩ := gridE_zero e
    cases hp : F.placed px py
    · have q : F.pt px py = 4 := by
        unfold F.placed at hp
        unfold F.pt
        rw [hp]
        rfl
      have h1 : F.htE ax ay sz nx ny l px py = 4 := by unfold F.htE; rw [if_pos e, q]
      have h2 : F.hiE ax ay sz nx ny l px py R = 4 := by unfold F.hiE; rw [if_pos e, if_neg (by omega)]
      simp [T.wp, T.wp_cond, Aft, e, hp, h1, h2, F.z]
    · have q : F.pt px py = 0 := by
        unfold F.placed at hp
        unfold F.pt
        rw [hp]
        rfl
      obtain ⟨q1, q2⟩ := pt_zeroT q
      have h1 : F.htE ax ay sz nx ny l px py = 0 := by unfold F.htE; rw [if_pos e, q]
      have b5 := mul_bd (x := nx) (y := ny) (a := 32) (b := 32) (by omega) (by omega)
      have u1 : i64ok (nx * ny) := by unfold i64ok; omega
      have u2 : -2000000 ≤ px ∧ px ≤ 2000000 := by omega
      have u3 : -2000000 ≤ py ∧ py ≤ 2000000 := by omega
      by_cases hr : R < 0
      · have h2 : F.hiE ax ay sz nx ny l px py R = 4 := by unfold F.hiE; rw [if_pos e, if_pos q, inb_false (.inl hr)]; rfl
        simp [T.wp, T.wp_cond, Aft, e, hp, h1, h2, F.z, hr, u1, u2, u3]
      · have h2 : F.hiE ax ay sz nx ny l px py R = 0 := by unfold F.hiE; rw [if_pos e, if_pos q, inb_true.2 (by omega)]; rfl
        have h3 := hi_top (px := px) (py := py) e (show 0 ≤ R by omega)
        have u4 : 0 ≤ R ∧ R ≤ 1000 := by omega
        simp [T.wp, T.wp_cond, Aft, e, hp, h1, h2, h3, F.z, hr, u1, u2, u3, u4, q1, q2]
  · have h1 : F.htE ax ay sz nx ny l px py = F.gridE ax ay sz nx ny l := by unfold F.htE; rw [if_neg e]
    have h2 : F.hiE ax ay sz nx ny l px py R = F.gridE ax ay sz nx ny l := by unfold F.hiE; rw [if_neg e]
    simp [T.wp, T.wp_cond, Aft, e, h1, h2, F.z]



noncomputable def s_tlaw : Summ cod := fun args H => match args, H with
  | [.agg [.int .i64 ax, .int .i64 ay, .int .i64 sz, .int .i64 nx, .int .i64 ny, .slc 0 l_i l_n l_t], .agg [.int .i64 px, .int .i64 py], .c (.int .i64 r)], [o0] => (match o0.asInp 0 with | some l => .need ((l_i = 0 ∧ l_n = List.length l)) (.ret (.c (.bool true), [])) | none => .fail)
  | _, _ => .fail


theorem tlaw_sound : Sound Try.prog cod 7 s_tlaw := sound_runs (cfg := C_ttop) L_ttop_ok mixed Try.func7 rfl rfl _ fun args H r news hg b0 hb => by
  unfold s_tlaw at hg
  split at hg
  · skip
    split at hg
    · rename_i l hx0
      cases asInp_spec hx0
      simp only [T.gives, T.wp, Prod.mk.injEq] at hg
      obtain ⟨⟨rfl, rfl⟩, rfl, rfl⟩ := hg
      exact tlaw_run _ _ _ _ _ _ _ _ _ _ b0 hb 
    · exact hg.elim
  · exact hg.elim

noncomputable def L_tlaw : Sums cod := (7, .p s_tlaw) :: L_ttop
noncomputable def C_tlaw : Cfg cod := mkC L_tlaw

theorem L_tlaw_ok : Snd Try.prog cod L_tlaw := .cons tlaw_sound L_ttop_ok


end
end Go.Proofs.Ythljcjighomgkaa
