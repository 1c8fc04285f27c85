/- Part of a claim: lemmas on the way to its theorem; each states its own conditions. -/
import Derived.Test.YthljcjighomgkaaFk
namespace Go.Proofs.Ythljcjighomgkaa
open Sym Go.RowKit
noncomputable section
set_option maxRecDepth 100000
set_option maxHeartbeats 4000000

namespace F
def dup (n r : Int) : Int := if r * r < n then r + 1 else r
def lerp (a b n d : Int) : Int := a + (b - a) * n / d
def lerpU (a b n d : Int) : Int := a + -(-((b - a) * n) / d)
def mixN (a b : Nd) (t : Int) : Nd := (t, lerp a.2.1 b.2.1 (t - a.1) (b.1 - a.1), lerp a.2.2.1 b.2.2.1 (t - a.1) (b.1 - a.1), lerp a.2.2.2.1 b.2.2.2.1 (t - a.1) (b.1 - a.1), lerpU a.2.2.2.2.1 b.2.2.2.2.1 (t - a.1) (b.1 - a.1), lerpU a.2.2.2.2.2 b.2.2.2.2.2 (t - a.1) (b.1 - a.1))
def atN (l : List Nd) (t : Int) : Nd := if bsB l t = true then l.getD (bsI l t) nd0 else mixN (l.getD (bsI l t - 1) nd0) (l.getD (bsI l t) nd0) t
def atE (l : List Nd) (t : Int) : Int := if tubeE l = 0 then (if t < nt l 0 then 12 else if nt l (l.length - 1) < t then 12 else 0) else tubeE l
def atR (l : List Nd) (t : Int) : Nd := if atE l t = 0 then atN l t else nd0
end F


theorem lerp_bd {δ n d : Int} (h0 : 0 ≤ n) (h1 : n ≤ d) (h2 : 0 < d) : (0 ≤ δ → 0 ≤ δ * n / d ∧ δ * n / d ≤ δ) ∧ (δ ≤ 0 → δ ≤ δ * n / d ∧ δ * n / d ≤ 0) := by
  constructor
  · intro h
    have k1 : 0 ≤ δ * n := Int.mul_nonneg h h0
    have k2 : δ * n ≤ δ * d := Int.mul_le_mul_of_nonneg_left h1 h
    exact ⟨Int.ediv_nonneg k1 (by omega), Int.ediv_le_of_le_mul h2 k2⟩
  · intro h
    have k1 : 0 ≤ -δ * n := Int.mul_nonneg (by omega) h0
    have k2 : -δ * n ≤ -δ * d := Int.mul_le_mul_of_nonneg_left h1 (by omega)
    rw [Int.neg_mul] at k1 k2
    rw [Int.neg_mul] at k2
    exact ⟨Int.le_ediv_of_mul_le h2 (by omega), Int.ediv_le_of_le_mul h2 (by omega)⟩
theorem lerpU_bd {δ n d : Int} (h0 : 0 ≤ n) (h1 : n ≤ d) (h2 : 0 < d) : (0 ≤ δ → 0 ≤ -(-(δ * n) / d) ∧ -(-(δ * n) / d) ≤ δ) ∧ (δ ≤ 0 → δ ≤ -(-(δ * n) / d) ∧ -(-(δ * n) / d) ≤ 0) := by
  have := lerp_bd (δ := -δ) h0 h1 h2
  rw [Int.neg_mul] at this
  omega
theorem lerp_need {a b n d B : Int} (ha : -B ≤ a ∧ a ≤ B) (hb : -B ≤ b ∧ b ≤ B) (hB : B ≤ 1000000) (h0 : 0 ≤ n) (h1 : n ≤ d) (h2 : 0 < d) (h3 : d ≤ 200000) : i64ok (b - a) ∧ i64ok ((b - a) * n) ∧ i64ok (-((b - a) * n)) ∧ (-B ≤ F.lerp a b n d ∧ F.lerp a b n d ≤ B) ∧ (-B ≤ F.lerpU a b n d ∧ F.lerpU a b n d ≤ B) := by
  have k1 := mul_bd (x := b - a) (y := n) (a := 2000000) (b := 200000) (by omega) (by omega)
  have k2 := lerp_bd (δ := b - a) h0 h1 h2
  have k3 := lerpU_bd (δ := b - a) h0 h1 h2
  unfold F.lerp F.lerpU i64ok
  generalize (b - a) * n = p at *
  omega
theorem lerp_lo {a b n d L U : Int} (ha : L ≤ a ∧ a ≤ U) (hb : L ≤ b ∧ b ≤ U) (h0 : 0 ≤ n) (h1 : n ≤ d) (h2 : 0 < d) : (L ≤ F.lerp a b n d ∧ F.lerp a b n d ≤ U) ∧ (L ≤ F.lerpU a b n d ∧ F.lerpU a b n d ≤ U) := by
  have k2 := lerp_bd (δ := b - a) h0 h1 h2
  have k3 := lerpU_bd (δ := b - a) h0 h1 h2
  unfold F.lerp F.lerpU
  generalize (b - a) * n = p at *
  omega
theorem pt_zero {x y : Int} (h : F.pt x y = 0) : (-1000000 ≤ x ∧ x ≤ 1000000) ∧ (-1000000 ≤ y ∧ y ≤ 1000000) := by
  unfold F.pt at h
  split at h
  · rename_i hc
    unfold F.inb at hc
    simp only [Bool.and_eq_true, decide_eq_true_eq] at hc
    exact hc
  · omega
/-- The search's place: what lies before it is earlier, the rest is not. -/
theorem bsF_spec (l : List F.Nd) (t : Int) (hs : ∀ i j, i ≤ j → j < l.length → F.nt l i ≤ F.nt l j) : ∀ (m lo hi : Nat), lo ≤ hi → hi ≤ l.length → hi - lo < 2 ^ m → (∀ j, j < lo → F.nt l j < t) → (∀ j, hi ≤ j → j < l.length → t ≤ F.nt l j) →
    F.bsF l t m lo hi ≤ l.length ∧ (∀ j, j < F.bsF l t m lo hi → F.nt l j < t) ∧ (∀ j, F.bsF l t m lo hi ≤ j → j < l.length → t ≤ F.nt l j)
  | 0, lo, hi, h1, h2, h3, h4, h5 => by
    simp only [F.bsF]
    obtain rfl : lo = hi := by simp at h3; omega
    exact ⟨h2, h4, h5⟩
  | m + 1, lo, hi, h1, h2, h3, h4, h5 => by
    simp only [F.bsF]
    rw [Nat.pow_succ] at h3
    generalize hp : 2 ^ m = p at h3
    split
    · rename_i hlt
      split
      · rename_i hm
        refine bsF_spec l t hs m _ hi (by omega) h2 (by rw [hp]; omega) (fun j hj => ?_) h5
        have := hs j ((lo + hi) / 2) (by omega) (by omega)
        omega
      · rename_i hm
        refine bsF_spec l t hs m lo _ (by omega) (by omega) (by rw [hp]; omega) h4 (fun j hj hjl => ?_)
        have := hs ((lo + hi) / 2) j hj hjl
        omega
    · obtain rfl : lo = hi := by omega
      exact ⟨h2, h4, h5⟩
theorem nt_mono {l : List F.Nd} (h : ∀ j, j < l.length → 0 < j → F.nt l (j - 1) < F.nt l j) : ∀ (k i : Nat), i + k < l.length → F.nt l i ≤ F.nt l (i + k)
  | 0, i, _ => Int.le_refl _
  | k + 1, i, hk => by
    have h1 := nt_mono h k i (by omega)
    have h2 := h (i + (k + 1)) hk (by omega)
    rw [show i + (k + 1) - 1 = i + k by omega] at h2
    omega
/-- What the search finds between the ends of a valid tube. -/
theorem bs_facts {l : List F.Nd} {t : Int} (h : F.atE l t = 0) : F.tubeE l = 0 ∧ F.bsI l t < l.length ∧ (F.bsB l t = true → F.nt l (F.bsI l t) = t) ∧ (F.bsB l t = false → 1 ≤ F.bsI l t ∧ F.nt l (F.bsI l t - 1) < t ∧ t < F.nt l (F.bsI l t)) := by
  unfold F.atE at h
  by_cases h1 : F.tubeE l = 0
  rotate_left
  · rw [if_neg h1] at h; exact absurd h h1
  rw [if_pos h1] at h
  by_cases h2 : t < F.nt l 0
  · rw [if_pos h2] at h; omega
  rw [if_neg h2] at h
  by_cases h3 : F.nt l (l.length - 1) < t
  · rw [if_pos h3] at h; omega
  obtain ⟨h4, h5⟩ := tubeE_zero h1
  have hs : ∀ i j, i ≤ j → j < l.length → F.nt l i ≤ F.nt l j := fun i j hij hj => by
    have := nt_mono (fun j hj => (h5 j hj).2.1) (j - i) i (by omega)
    rwa [show i + (j - i) = j by omega] at this
  have hb : F.bsI l t ≤ l.length ∧ (∀ j, j < F.bsI l t → F.nt l j < t) ∧ (∀ j, F.bsI l t ≤ j → j < l.length → t ≤ F.nt l j) := bsF_spec l t hs 7 0 l.length (by omega) (by omega) (by have : (2 : Nat) ^ 7 = 128 := rfl; omega) (fun j hj => by omega) (fun j hj hjl => by omega)
  obtain ⟨b1, b2, b3⟩ := hb
  have hlt : F.bsI l t < l.length := by
    rcases Nat.lt_or_ge (F.bsI l t) l.length with hl | hl
    · exact hl
    · have := b2 (l.length - 1) (by omega)
      omega
  refine ⟨h1, hlt, fun hB => ?_, fun hB => ?_⟩
  · unfold F.bsB at hB
    simp only [Bool.and_eq_true, decide_eq_true_eq] at hB
    omega
  · unfold F.bsB at hB
    have hne : ¬ F.nt l (F.bsI l t) - t = 0 := fun e => by simp [hlt, e] at hB
    have g1 := b3 _ (Nat.le_refl _) hlt
    have g2 : 1 ≤ F.bsI l t := by
      rcases Nat.eq_zero_or_pos (F.bsI l t) with e | e
      · rw [e] at hne g1; omega
      · exact e
    exact ⟨g2, b2 _ (by omega), by omega⟩
/-- The node's ranges. -/
theorem atR_bd (l : List F.Nd) (t : Int) : ((-1000000 ≤ (F.atR l t).2.1 ∧ (F.atR l t).2.1 ≤ 1000000) ∧ (-1000000 ≤ (F.atR l t).2.2.1 ∧ (F.atR l t).2.2.1 ≤ 1000000)) ∧ (0 ≤ (F.atR l t).2.2.2.1 ∧ (F.atR l t).2.2.2.1 ≤ 60000) ∧ (0 ≤ (F.atR l t).2.2.2.2.1 ∧ (F.atR l t).2.2.2.2.1 ≤ 1000000) ∧ (0 ≤ (F.atR l t).2.2.2.2.2 ∧ (F.atR l t).2.2.2.2.2 ≤ 60000) := by
  unfold F.atR
  by_cases h : F.atE l t = 0
  rotate_left
  · rw [if_neg h]; simp [F.nd0]
  rw [if_pos h]
  obtain ⟨h1, h2, h3, h4⟩ := bs_facts h
  obtain ⟨_, h5⟩ := tubeE_zero h1
  obtain ⟨a1, a2, a3, a4, a5, a6⟩ := h5 _ h2
  have p1 := pt_zero a3
  unfold F.atN
  by_cases hB : F.bsB l t = true
  · rw [if_pos hB]
    exact ⟨p1, a4, a5, a6⟩
  · rw [if_neg hB]
    obtain ⟨g1, g2, g3⟩ := h4 (by simpa using hB)
    obtain ⟨b1, b2, b3, b4, b5, b6⟩ := h5 (F.bsI l t - 1) (by omega)
    have p2 := pt_zero b3
    unfold F.nt at *
    unfold F.mixN
    generalize l.getD (F.bsI l t) F.nd0 = e at *
    generalize l.getD (F.bsI l t - 1) F.nd0 = f at *
    simp only
    exact ⟨⟨(lerp_lo p2.1 p1.1 (by omega) (by omega) (by omega)).1, (lerp_lo p2.2 p1.2 (by omega) (by omega) (by omega)).1⟩, (lerp_lo b4 a4 (by omega) (by omega) (by omega)).1, (lerp_lo b5 a5 (by omega) (by omega) (by omega)).2, (lerp_lo b6 a6 (by omega) (by omega) (by omega)).2⟩

noncomputable def s_distance : Summ cod := fun args H => match H with
  | [] => match rd args with
    | some [[_, x, y], [_, u, v]] => (.need (((-1000000 ≤ x ∧ x ≤ 1000000) ∧ (-1000000 ≤ y ∧ y ≤ 1000000)) ∧ ((-1000000 ≤ u ∧ u ≤ 1000000) ∧ (-1000000 ≤ v ∧ v ≤ 1000000))) (.ret (.tup [.c (.int .i64 (F.root (F.far x y u v))), .c (.int .i64 (F.dup (F.far x y u v) (F.root (F.far x y u v))))], [])))
    | _ => .fail
  | _ => .fail

theorem distance_tree (x y u v : Int) : symF C_bs [] Try.f91.results.toList (List.length ([] : Heap cod)) 400 [.code (codeOf Try.f91)] ⟨argsS Try.f91 [.agg [.int .i64 x, .int .i64 y], .agg [.int .i64 u, .int .i64 v]], []⟩ =
.need ((F.b9 x ∧ (F.b9 y ∧ (F.b9 u ∧ F.b9 v)))) (
.need (i64ok (F.far x y u v)) (
.need (i64ok (F.root (F.far x y u v) * F.root (F.far x y u v))) (
 cond (decide (F.root (F.far x y u v) * F.root (F.far x y u v) < F.far x y u v)) (
 .need (i64ok (F.root (F.far x y u v) + 1)) (
 .ret (.fin (.tup [.c (.int .i64 (F.root (F.far x y u v))), .c (.int .i64 (F.root (F.far x y u v) + 1))]) []))) (
 .ret (.fin (.tup [.c (.int .i64 (F.root (F.far x y u v))), .c (.int .i64 (F.root (F.far x y u v)))]) []))))) := by kernel_rfl

theorem distance_sound : Sound Try.prog cod 91 s_distance := sound_flat (cfg := C_bs) L_bs_ok mixed Try.func91 rfl rfl _ 400 fun args H r news hg => by
  unfold s_distance at hg
  split at hg
  · split at hg
    · rename_i _ x y _ u v hrd
      have hargs := rd_spec hrd
      simp only [List.map, wr1, ints, List.tail] at hargs
      subst hargs
      clear hrd
      rw [distance_tree]
      simp only [T.gives, T.wp, Prod.mk.injEq] at hg
      obtain ⟨⟨⟨h1, h2⟩, h3, h4⟩, rfl, rfl⟩ := hg
      simp only [T.wp, T.wp_cond, Fin.fin.injEq, SV.c.injEq, SV.tup.injEq, SV.agg.injEq, List.cons.injEq, Cell.bool.injEq, Cell.int.injEq, and_true, true_and, decide_eq_true_eq]
      have q1 := sq_bd (x := x - u) (a := 2000000) (by omega)
      have q2 := sq_bd (x := y - v) (a := 2000000) (by omega)
      have hf : 0 ≤ F.far x y u v ∧ F.far x y u v ≤ 8000000000000 := by unfold F.far; omega
      obtain ⟨r1, r2, r3, r4⟩ := root_spec (n := F.far x y u v) (by omega) (by omega)
      unfold F.b9 F.dup
      generalize F.far x y u v = D at *
      generalize F.root D = r at *
      have r5 := mul_self_nn r
      (repeat (refine ⟨(by first | rfl | trivial | assumption | omega | (unfold i64ok; omega) | (simp only [List.length_cons, List.length_nil]; omega) | exact ⟨by omega, trivial⟩), ?_⟩))
      by_cases hc : r * r < D
      · simp only [hc, if_true]
        (repeat (refine ⟨(by first | rfl | trivial | assumption | omega | (unfold i64ok; omega) | (simp only [List.length_cons, List.length_nil]; omega) | exact ⟨by omega, trivial⟩), ?_⟩))
        all_goals (first | trivial | omega | rfl | assumption | (unfold i64ok; omega) | exact ⟨rfl, rfl⟩ | exact ⟨trivial, rfl⟩)
      · simp only [hc, if_false]
        (repeat (refine ⟨(by first | rfl | trivial | assumption | omega | (unfold i64ok; omega) | (simp only [List.length_cons, List.length_nil]; omega) | exact ⟨by omega, trivial⟩), ?_⟩))
        all_goals (first | trivial | omega | rfl | assumption | (unfold i64ok; omega) | exact ⟨rfl, rfl⟩ | exact ⟨trivial, rfl⟩)
    · exact hg.elim
  · exact hg.elim

noncomputable def L_distance : Sums cod := (91, .p s_distance) :: L_bs
noncomputable def C_distance : Cfg cod := mkC L_distance

theorem L_distance_ok : Snd Try.prog cod L_distance := .cons distance_sound L_bs_ok

noncomputable def s_toward : Summ cod := fun args H => match H with
  | [] => match rd args with
    | some [[_, x, y], [_, u, v], [n], [d]] => (.need ((0 ≤ n ∧ n ≤ d) ∧ (0 < d ∧ d ≤ 200000) ∧ F.pt x y = 0 ∧ F.pt u v = 0) (.ret (.tup [.agg [.int .i64 (F.lerp x u n d), .int .i64 (F.lerp y v n d)], .c (.int .i64 0)], [])))
    | _ => .fail
  | _ => .fail

theorem toward_tree (x y u v n d : Int) : symF C_distance [] Try.f99.results.toList (List.length ([] : Heap cod)) 400 [.code (codeOf Try.f99)] ⟨argsS Try.f99 [.agg [.int .i64 x, .int .i64 y], .agg [.int .i64 u, .int .i64 v], .c (.int .i64 n), .c (.int .i64 d)], []⟩ =
 cond (decide (d ≤ 0)) (
 .ret (.fin (.tup [.agg [.int .i64 0, .int .i64 0], .c (.int .i64 10)]) [])) (
 cond (decide (200000 < d)) (
  .ret (.fin (.tup [.agg [.int .i64 0, .int .i64 0], .c (.int .i64 4)]) [])) (
  cond (decide (n < 0)) (
   .ret (.fin (.tup [.agg [.int .i64 0, .int .i64 0], .c (.int .i64 4)]) [])) (
   cond (decide (d < n)) (
    .ret (.fin (.tup [.agg [.int .i64 0, .int .i64 0], .c (.int .i64 4)]) [])) (
    cond (!decide (F.pt x y = 0)) (
     .ret (.fin (.tup [.agg [.int .i64 0, .int .i64 0], .c (.int .i64 (F.pt x y))]) [])) (
     cond (!decide (F.pt u v = 0)) (
      .ret (.fin (.tup [.agg [.int .i64 0, .int .i64 0], .c (.int .i64 (F.pt u v))]) [])) (
      .need (i64ok (u - x)) (
      .need (i64ok ((u - x) * n)) (
      .need (((0 : Int) < d ∧ i64ok ((u - x) * n))) (
      .need (i64ok (v - y)) (
      .need (i64ok ((v - y) * n)) (
      .need (((0 : Int) < d ∧ i64ok ((v - y) * n))) (
      .need (i64ok (x + (u - x) * n / d)) (
      .need (i64ok (y + (v - y) * n / d)) (
      .ret (.fin (.tup [.agg [.int .i64 (x + (u - x) * n / d), .int .i64 (y + (v - y) * n / d)], .c (.int .i64 0)]) []))))))))))))))) := by kernel_rfl

theorem toward_sound : Sound Try.prog cod 99 s_toward := sound_flat (cfg := C_distance) L_distance_ok mixed Try.func99 rfl rfl _ 400 fun args H r news hg => by
  unfold s_toward at hg
  split at hg
  · split at hg
    · rename_i _ x y _ u v n d hrd
      have hargs := rd_spec hrd
      simp only [List.map, wr1, ints, List.tail] at hargs
      subst hargs
      clear hrd
      rw [toward_tree]
      simp only [T.gives, T.wp, Prod.mk.injEq] at hg
      obtain ⟨⟨⟨h1, h2⟩, ⟨h3, h4⟩, h5, h6⟩, rfl, rfl⟩ := hg
      simp only [T.wp, T.wp_cond, Fin.fin.injEq, SV.c.injEq, SV.tup.injEq, SV.agg.injEq, List.cons.injEq, Cell.bool.injEq, Cell.int.injEq, and_true, true_and, decide_eq_true_eq]
      have p1 := pt_zero h5
      have p2 := pt_zero h6
      obtain ⟨a1, a2, a3, a4, _⟩ := lerp_need (B := 1000000) p1.1 p2.1 (by omega) h1 h2 h3 h4
      obtain ⟨b1, b2, b3, b4, _⟩ := lerp_need (B := 1000000) p1.2 p2.2 (by omega) h1 h2 h3 h4
      have g1 : ¬ d ≤ 0 := by omega
      have g2 : ¬ 200000 < d := by omega
      have g3 : ¬ n < 0 := by omega
      have g4 : ¬ d < n := by omega
      unfold F.lerp at *
      simp only [g1, g2, g3, g4, h5, h6, if_false, decide_true, Bool.not_true, Bool.false_eq_true]
      (repeat (refine ⟨(by first | rfl | trivial | assumption | omega | (unfold i64ok; omega) | (simp only [List.length_cons, List.length_nil]; omega) | exact ⟨by omega, trivial⟩), ?_⟩))
      trivial
    · exact hg.elim
  · exact hg.elim

noncomputable def L_toward : Sums cod := (99, .p s_toward) :: L_distance
noncomputable def C_toward : Cfg cod := mkC L_toward

theorem L_toward_ok : Snd Try.prog cod L_toward := .cons toward_sound L_distance_ok

noncomputable def s_permitted : Summ cod := fun args H => match H with
  | [] => match rd args with
    | some [[_, i, st, t, x, y, sx, sy, h, r, ra, c, hi, mi]] => (.ret (.c (.bool (decide (F.tpart t x y h ra 0 = 0))), []))
    | _ => .fail
  | _ => .fail

theorem permitted_tree (i st t x y sx sy h r ra c hi mi : Int) : symF C_toward [] Try.f100.results.toList (List.length ([] : Heap cod)) 400 [.code (codeOf Try.f100)] ⟨argsS Try.f100 [.agg [.int .i64 i, .int .i64 st, .int .i64 t, .int .i64 x, .int .i64 y, .int .i64 sx, .int .i64 sy, .int .i64 h, .int .i64 r, .int .i64 ra, .int .i64 c, .int .i64 hi, .int .i64 mi]], []⟩ =
.ret (.fin (.c (.bool (decide (F.tpart t x y h ra 0 = 0)))) []) := by kernel_rfl

theorem permitted_sound : Sound Try.prog cod 100 s_permitted := sound_flat (cfg := C_toward) L_toward_ok mixed Try.func100 rfl rfl _ 400 fun args H r news hg => by
  unfold s_permitted at hg
  split at hg
  · split at hg
    · rename_i _ i st t x y sx sy h r ra c hi mi hrd
      have hargs := rd_spec hrd
      simp only [List.map, wr1, ints, List.tail] at hargs
      subst hargs
      clear hrd
      rw [permitted_tree]
      cases hg
      simp only [T.wp]
    · exact hg.elim
  · exact hg.elim

noncomputable def L_permitted : Sums cod := (100, .p s_permitted) :: L_toward
noncomputable def C_permitted : Cfg cod := mkC L_permitted

theorem L_permitted_ok : Snd Try.prog cod L_permitted := .cons permitted_sound L_toward_ok


def cuts_ends : Cuts := []

theorem ends_t0 (l : List (Int × Int × Int × Int × Int × Int)) (l_t : Bool) : symF C_permitted cuts_ends Try.f85.results.toList 1 400 [.code (codeOf Try.f85)] ⟨argsS Try.f85 [.c (.slc 0 0 (List.length l) l_t)], ([.inp 2 l] : Heap cod)⟩ =
.need (((0 : Int) ≤ 0 ∧ (0 : Int) < Int.ofNat (List.length l))) (
.need ((0 + Int.toNat 0 : Nat) < List.length l) (
.need (i64ok (Int.ofNat (List.length l) - 1)) (
.need (((0 : Int) ≤ Int.ofNat (List.length l) - 1 ∧ Int.ofNat (List.length l) - 1 < Int.ofNat (List.length l))) (
.need (0 + Int.toNat (Int.ofNat (List.length l) - 1) < List.length l) (
.ret (.fin (.tup [.c (.int .i64 ((List.getD l (0 + Int.toNat 0) (cod 2).d).1)), .c (.int .i64 ((List.getD l (0 + Int.toNat (Int.ofNat (List.length l) - 1)) (cod 2).d).1))]) [])))))) := by kernel_rfl



theorem ends_run (l : List (Int × Int × Int × Int × Int × Int)) (l_t : Bool) (b0 : Base) (hb : b0.n = 1) (h0 : 0 < l.length ∧ l.length ≤ 64) : Sym.Runs Try.prog b0 [.code (codeOf Try.f85)] ⟨argsS Try.f85 [.c (.slc 0 0 (List.length l) l_t)], ([.inp 2 l] : Heap cod)⟩ (Sym.Ends Try.prog Try.f85 1 (.tup [.c (.int .i64 (F.nt l 0)), .c (.int .i64 (F.nt l (l.length - 1)))]) []) := by
  refine Runs.go (cfg := C_permitted) L_permitted_ok mixed cuts_ends 400 hb (ends_t0 l l_t) ?_
  have hd : (cod 2).d = F.nd0 := rfl
  have hp : ((l.length : Int) - 1).toNat = l.length - 1 := by omega
  have hm : (l.length : Int) ≤ 64 := by omega
  simp only [T.wp, T.wp_cond, Aft, Int.ofNat_eq_natCast, decide_eq_true_eq, and_true, true_and, Nat.zero_add, Bool.not_eq_true', decide_eq_false_iff_not, hd, hp]
  (repeat (refine ⟨(by first | rfl | trivial | assumption | omega | (unfold i64ok; omega) | (simp only [List.length_cons, List.length_nil]; omega) | exact ⟨by omega, trivial⟩), ?_⟩))
  (first | trivial | omega | rfl | assumption | (unfold i64ok; omega) | exact ⟨rfl, rfl⟩ | exact ⟨trivial, rfl⟩)



noncomputable def s_ends : Summ cod := fun args H => match args, H with
  | [.c (.slc 0 l_i l_n l_t)], [o0] => (match o0.asInp 2 with | some l => .need ((l_i = 0 ∧ l_n = List.length l) ∧ (0 < l.length ∧ l.length ≤ 64)) (.ret (.tup [.c (.int .i64 (F.nt l 0)), .c (.int .i64 (F.nt l (l.length - 1)))], [])) | none => .fail)
  | _, _ => .fail


theorem ends_sound : Sound Try.prog cod 85 s_ends := sound_runs (cfg := C_permitted) L_permitted_ok mixed Try.func85 rfl rfl _ fun args H r news hg b0 hb => by
  unfold s_ends at hg
  split at hg
  · skip
    split at hg
    · rename_i l hx0
      cases asInp_spec hx0
      simp only [T.gives, T.wp, Prod.mk.injEq] at hg
      obtain ⟨⟨⟨rfl, rfl⟩, q1⟩, rfl, rfl⟩ := hg
      exact ends_run _ _ b0 hb (by assumption)
    · exact hg.elim
  · exact hg.elim

noncomputable def L_ends : Sums cod := (85, .p s_ends) :: L_permitted
noncomputable def C_ends : Cfg cod := mkC L_ends

theorem L_ends_ok : Snd Try.prog cod L_ends := .cons ends_sound L_permitted_ok



def cuts_tat : Cuts := []

theorem tat_t0 (l : List (Int × Int × Int × Int × Int × Int)) (l_t : Bool) (t : Int) : symF C_ends cuts_tat Try.f86.results.toList 1 400 [.code (codeOf Try.f86)] ⟨argsS Try.f86 [.c (.slc 0 0 (List.length l) l_t), .c (.int .i64 t)], ([.inp 2 l] : Heap cod)⟩ =
.need (((0 = 0 ∧ List.length l = List.length l) ∧ (F.tubeE l = 0 ∧ ((0 : Int) ≤ t ∧ t ≤ 200000)))) (
 cond (F.bsB l t) (
 .need (((0 : Int) ≤ Int.ofNat (F.bsI l t) ∧ Int.ofNat (F.bsI l t) < Int.ofNat (List.length l))) (
 .need (0 + Int.toNat (Int.ofNat (F.bsI l t)) < List.length l) (
 .ret (.fin (.agg [.int .i64 ((List.getD l (0 + Int.toNat (Int.ofNat (F.bsI l t))) (cod 2).d).1), .int .i64 ((List.getD l (0 + Int.toNat (Int.ofNat (F.bsI l t))) (cod 2).d).2.1), .int .i64 ((List.getD l (0 + Int.toNat (Int.ofNat (F.bsI l t))) (cod 2).d).2.2.1), .int .i64 ((List.getD l (0 + Int.toNat (Int.ofNat (F.bsI l t))) (cod 2).d).2.2.2.1), .int .i64 ((List.getD l (0 + Int.toNat (Int.ofNat (F.bsI l t))) (cod 2).d).2.2.2.2.1), .int .i64 ((List.getD l (0 + Int.toNat (Int.ofNat (F.bsI l t))) (cod 2).d).2.2.2.2.2)]) [])))) (
 .need (i64ok (Int.ofNat (F.bsI l t) - 1)) (
 .need (((0 : Int) ≤ Int.ofNat (F.bsI l t) - 1 ∧ Int.ofNat (F.bsI l t) - 1 < Int.ofNat (List.length l))) (
 .need (0 + Int.toNat (Int.ofNat (F.bsI l t) - 1) < List.length l) (
 .need (((0 : Int) ≤ Int.ofNat (F.bsI l t) ∧ Int.ofNat (F.bsI l t) < Int.ofNat (List.length l))) (
 .need (0 + Int.toNat (Int.ofNat (F.bsI l t)) < List.length l) (
 .need (i64ok (t - (List.getD l (0 + Int.toNat (Int.ofNat (F.bsI l t) - 1)) (cod 2).d).1)) (
 .need (i64ok   ((List.getD l (0 + Int.toNat (Int.ofNat (F.bsI l t))) (cod 2).d).1 -     (List.getD l (0 + Int.toNat (Int.ofNat (F.bsI l t) - 1)) (cod 2).d).1)) (
 .need ((((0 : Int) ≤ t - (List.getD l (0 + Int.toNat (Int.ofNat (F.bsI l t) - 1)) (cod 2).d).1 ∧ t - (List.getD l (0 + Int.toNat (Int.ofNat (F.bsI l t) - 1)) (cod 2).d).1 ≤   (List.getD l (0 + Int.toNat (Int.ofNat (F.bsI l t))) (cod 2).d).1 -     (List.getD l (0 + Int.toNat (Int.ofNat (F.bsI l t) - 1)) (cod 2).d).1) ∧ (((0 : Int) < (List.getD l (0 + Int.toNat (Int.ofNat (F.bsI l t))) (cod 2).d).1 -   (List.getD l (0 + Int.toNat (Int.ofNat (F.bsI l t) - 1)) (cod 2).d).1 ∧ (List.getD l (0 + Int.toNat (Int.ofNat (F.bsI l t))) (cod 2).d).1 -     (List.getD l (0 + Int.toNat (Int.ofNat (F.bsI l t) - 1)) (cod 2).d).1 ≤   200000) ∧ (F.pt (List.getD l (0 + Int.toNat (Int.ofNat (F.bsI l t) - 1)) (cod 2).d).2.1     (List.getD l (0 + Int.toNat (Int.ofNat (F.bsI l t) - 1)) (cod 2).d).2.2.1 =   0 ∧ F.pt (List.getD l (0 + Int.toNat (Int.ofNat (F.bsI l t))) (cod 2).d).2.1     (List.getD l (0 + Int.toNat (Int.ofNat (F.bsI l t))) (cod 2).d).2.2.1 =   0)))) (
 .need (i64ok   ((List.getD l (0 + Int.toNat (Int.ofNat (F.bsI l t))) (cod 2).d).2.2.2.1 -     (List.getD l (0 + Int.toNat (Int.ofNat (F.bsI l t) - 1)) (cod 2).d).2.2.2.1)) (
 .need (i64ok   (((List.getD l (0 + Int.toNat (Int.ofNat (F.bsI l t))) (cod 2).d).2.2.2.1 -       (List.getD l (0 + Int.toNat (Int.ofNat (F.bsI l t) - 1)) (cod 2).d).2.2.2.1) *     (t - (List.getD l (0 + Int.toNat (Int.ofNat (F.bsI l t) - 1)) (cod 2).d).1))) (
 .need (((0 : Int) < (List.getD l (0 + Int.toNat (Int.ofNat (F.bsI l t))) (cod 2).d).1 -   (List.getD l (0 + Int.toNat (Int.ofNat (F.bsI l t) - 1)) (cod 2).d).1 ∧ i64ok   (((List.getD l (0 + Int.toNat (Int.ofNat (F.bsI l t))) (cod 2).d).2.2.2.1 -       (List.getD l (0 + Int.toNat (Int.ofNat (F.bsI l t) - 1)) (cod 2).d).2.2.2.1) *     (t - (List.getD l (0 + Int.toNat (Int.ofNat (F.bsI l t) - 1)) (cod 2).d).1)))) (
 .need (i64ok   ((List.getD l (0 + Int.toNat (Int.ofNat (F.bsI l t))) (cod 2).d).2.2.2.2.1 -     (List.getD l (0 + Int.toNat (Int.ofNat (F.bsI l t) - 1)) (cod 2).d).2.2.2.2.1)) (
 .need (i64ok   (((List.getD l (0 + Int.toNat (Int.ofNat (F.bsI l t))) (cod 2).d).2.2.2.2.1 -       (List.getD l (0 + Int.toNat (Int.ofNat (F.bsI l t) - 1)) (cod 2).d).2.2.2.2.1) *     (t - (List.getD l (0 + Int.toNat (Int.ofNat (F.bsI l t) - 1)) (cod 2).d).1))) (
 .need (((0 : Int) < (List.getD l (0 + Int.toNat (Int.ofNat (F.bsI l t))) (cod 2).d).1 -   (List.getD l (0 + Int.toNat (Int.ofNat (F.bsI l t) - 1)) (cod 2).d).1 ∧ (i64ok   (((List.getD l (0 + Int.toNat (Int.ofNat (F.bsI l t))) (cod 2).d).2.2.2.2.1 -       (List.getD l (0 + Int.toNat (Int.ofNat (F.bsI l t) - 1)) (cod 2).d).2.2.2.2.1) *     (t - (List.getD l (0 + Int.toNat (Int.ofNat (F.bsI l t) - 1)) (cod 2).d).1)) ∧ i64ok   (-(((List.getD l (0 + Int.toNat (Int.ofNat (F.bsI l t))) (cod 2).d).2.2.2.2.1 -         (List.getD l (0 + Int.toNat (Int.ofNat (F.bsI l t) - 1)) (cod 2).d).2.2.2.2.1) *       (t - (List.getD l (0 + Int.toNat (Int.ofNat (F.bsI l t) - 1)) (cod 2).d).1)))))) (
 .need (i64ok   ((List.getD l (0 + Int.toNat (Int.ofNat (F.bsI l t))) (cod 2).d).2.2.2.2.2 -     (List.getD l (0 + Int.toNat (Int.ofNat (F.bsI l t) - 1)) (cod 2).d).2.2.2.2.2)) (
 .need (i64ok   (((List.getD l (0 + Int.toNat (Int.ofNat (F.bsI l t))) (cod 2).d).2.2.2.2.2 -       (List.getD l (0 + Int.toNat (Int.ofNat (F.bsI l t) - 1)) (cod 2).d).2.2.2.2.2) *     (t - (List.getD l (0 + Int.toNat (Int.ofNat (F.bsI l t) - 1)) (cod 2).d).1))) (
 .need (((0 : Int) < (List.getD l (0 + Int.toNat (Int.ofNat (F.bsI l t))) (cod 2).d).1 -   (List.getD l (0 + Int.toNat (Int.ofNat (F.bsI l t) - 1)) (cod 2).d).1 ∧ (i64ok   (((List.getD l (0 + Int.toNat (Int.ofNat (F.bsI l t))) (cod 2).d).2.2.2.2.2 -       (List.getD l (0 + Int.toNat (Int.ofNat (F.bsI l t) - 1)) (cod 2).d).2.2.2.2.2) *     (t - (List.getD l (0 + Int.toNat (Int.ofNat (F.bsI l t) - 1)) (cod 2).d).1)) ∧ i64ok   (-(((List.getD l (0 + Int.toNat (Int.ofNat (F.bsI l t))) (cod 2).d).2.2.2.2.2 -         (List.getD l (0 + Int.toNat (Int.ofNat (F.bsI l t) - 1)) (cod 2).d).2.2.2.2.2) *       (t - (List.getD l (0 + Int.toNat (Int.ofNat (F.bsI l t) - 1)) (cod 2).d).1)))))) (
 .need (i64ok   ((List.getD l (0 + Int.toNat (Int.ofNat (F.bsI l t) - 1)) (cod 2).d).2.2.2.1 +     ((List.getD l (0 + Int.toNat (Int.ofNat (F.bsI l t))) (cod 2).d).2.2.2.1 -           (List.getD l (0 + Int.toNat (Int.ofNat (F.bsI l t) - 1)) (cod 2).d).2.2.2.1) *         (t - (List.getD l (0 + Int.toNat (Int.ofNat (F.bsI l t) - 1)) (cod 2).d).1) /       ((List.getD l (0 + Int.toNat (Int.ofNat (F.bsI l t))) (cod 2).d).1 -         (List.getD l (0 + Int.toNat (Int.ofNat (F.bsI l t) - 1)) (cod 2).d).1))) (
 .need (i64ok   ((List.getD l (0 + Int.toNat (Int.ofNat (F.bsI l t) - 1)) (cod 2).d).2.2.2.2.1 +     -(-(((List.getD l (0 + Int.toNat (Int.ofNat (F.bsI l t))) (cod 2).d).2.2.2.2.1 -               (List.getD l (0 + Int.toNat (Int.ofNat (F.bsI l t) - 1)) (cod 2).d).2.2.2.2.1) *             (t - (List.getD l (0 + Int.toNat (Int.ofNat (F.bsI l t) - 1)) (cod 2).d).1)) /         ((List.getD l (0 + Int.toNat (Int.ofNat (F.bsI l t))) (cod 2).d).1 -           (List.getD l (0 + Int.toNat (Int.ofNat (F.bsI l t) - 1)) (cod 2).d).1)))) (
 .need (i64ok   ((List.getD l (0 + Int.toNat (Int.ofNat (F.bsI l t) - 1)) (cod 2).d).2.2.2.2.2 +     -(-(((List.getD l (0 + Int.toNat (Int.ofNat (F.bsI l t))) (cod 2).d).2.2.2.2.2 -               (List.getD l (0 + Int.toNat (Int.ofNat (F.bsI l t) - 1)) (cod 2).d).2.2.2.2.2) *             (t - (List.getD l (0 + Int.toNat (Int.ofNat (F.bsI l t) - 1)) (cod 2).d).1)) /         ((List.getD l (0 + Int.toNat (Int.ofNat (F.bsI l t))) (cod 2).d).1 -           (List.getD l (0 + Int.toNat (Int.ofNat (F.bsI l t) - 1)) (cod 2).d).1)))) (
 .ret (.fin (.agg [.int .i64 t, .int .i64 (F.lerp (List.getD l (0 + Int.toNat (Int.ofNat (F.bsI l t) - 1)) (cod 2).d).2.1   (List.getD l (0 + Int.toNat (Int.ofNat (F.bsI l t))) (cod 2).d).2.1   (t - (List.getD l (0 + Int.toNat (Int.ofNat (F.bsI l t) - 1)) (cod 2).d).1)   ((List.getD l (0 + Int.toNat (Int.ofNat (F.bsI l t))) (cod 2).d).1 -     (List.getD l (0 + Int.toNat (Int.ofNat (F.bsI l t) - 1)) (cod 2).d).1)), .int .i64 (F.lerp (List.getD l (0 + Int.toNat (Int.ofNat (F.bsI l t) - 1)) (cod 2).d).2.2.1   (List.getD l (0 + Int.toNat (Int.ofNat (F.bsI l t))) (cod 2).d).2.2.1   (t - (List.getD l (0 + Int.toNat (Int.ofNat (F.bsI l t) - 1)) (cod 2).d).1)   ((List.getD l (0 + Int.toNat (Int.ofNat (F.bsI l t))) (cod 2).d).1 -     (List.getD l (0 + Int.toNat (Int.ofNat (F.bsI l t) - 1)) (cod 2).d).1)), .int .i64 ((List.getD l (0 + Int.toNat (Int.ofNat (F.bsI l t) - 1)) (cod 2).d).2.2.2.1 +   ((List.getD l (0 + Int.toNat (Int.ofNat (F.bsI l t))) (cod 2).d).2.2.2.1 -         (List.getD l (0 + Int.toNat (Int.ofNat (F.bsI l t) - 1)) (cod 2).d).2.2.2.1) *       (t - (List.getD l (0 + Int.toNat (Int.ofNat (F.bsI l t) - 1)) (cod 2).d).1) /     ((List.getD l (0 + Int.toNat (Int.ofNat (F.bsI l t))) (cod 2).d).1 -       (List.getD l (0 + Int.toNat (Int.ofNat (F.bsI l t) - 1)) (cod 2).d).1)), .int .i64 ((List.getD l (0 + Int.toNat (Int.ofNat (F.bsI l t) - 1)) (cod 2).d).2.2.2.2.1 +   -(-(((List.getD l (0 + Int.toNat (Int.ofNat (F.bsI l t))) (cod 2).d).2.2.2.2.1 -             (List.getD l (0 + Int.toNat (Int.ofNat (F.bsI l t) - 1)) (cod 2).d).2.2.2.2.1) *           (t - (List.getD l (0 + Int.toNat (Int.ofNat (F.bsI l t) - 1)) (cod 2).d).1)) /       ((List.getD l (0 + Int.toNat (Int.ofNat (F.bsI l t))) (cod 2).d).1 -         (List.getD l (0 + Int.toNat (Int.ofNat (F.bsI l t) - 1)) (cod 2).d).1))), .int .i64 ((List.getD l (0 + Int.toNat (Int.ofNat (F.bsI l t) - 1)) (cod 2).d).2.2.2.2.2 +   -(-(((List.getD l (0 + Int.toNat (Int.ofNat (F.bsI l t))) (cod 2).d).2.2.2.2.2 -             (List.getD l (0 + Int.toNat (Int.ofNat (F.bsI l t) - 1)) (cod 2).d).2.2.2.2.2) *           (t - (List.getD l (0 + Int.toNat (Int.ofNat (F.bsI l t) - 1)) (cod 2).d).1)) /       ((List.getD l (0 + Int.toNat (Int.ofNat (F.bsI l t))) (cod 2).d).1 -         (List.getD l (0 + Int.toNat (Int.ofNat (F.bsI l t) - 1)) (cod 2).d).1)))]) []))))))))))))))))))))))) := by kernel_rfl



theorem tat_run (l : List (Int × Int × Int × Int × Int × Int)) (l_t : Bool) (t : Int) (b0 : Base) (hb : b0.n = 1) (h0 : F.atE l t = 0 ∧ 0 ≤ t ∧ t ≤ 200000) : Sym.Runs Try.prog b0 [.code (codeOf Try.f86)] ⟨argsS Try.f86 [.c (.slc 0 0 (List.length l) l_t), .c (.int .i64 t)], ([.inp 2 l] : Heap cod)⟩ (Sym.Ends Try.prog Try.f86 1 (.agg [.int .i64 (F.atN l t).1, .int .i64 (F.atN l t).2.1, .int .i64 (F.atN l t).2.2.1, .int .i64 (F.atN l t).2.2.2.1, .int .i64 (F.atN l t).2.2.2.2.1, .int .i64 (F.atN l t).2.2.2.2.2]) []) := by
  obtain ⟨h0, h9⟩ := h0
  obtain ⟨h1, h2, h3, h4⟩ := bs_facts h0
  obtain ⟨_, h5⟩ := tubeE_zero h1
  obtain ⟨a1, a2, a3, a4, a5, a6⟩ := h5 _ h2
  have hd : (cod 2).d = F.nd0 := rfl
  refine Runs.go (cfg := C_ends) L_ends_ok mixed cuts_tat 400 hb (tat_t0 l l_t t) ?_
  unfold F.atN
  by_cases hB : F.bsB l t = true
  · simp only [T.wp, T.wp_cond, Aft, Int.ofNat_eq_natCast, decide_eq_true_eq, and_true, true_and, Nat.zero_add, Bool.not_eq_true', decide_eq_false_iff_not, hd, hB, if_true, Int.toNat_natCast]
    (repeat (refine ⟨(by first | rfl | trivial | assumption | omega | (unfold i64ok; omega) | (simp only [List.length_cons, List.length_nil]; omega) | exact ⟨by omega, trivial⟩), ?_⟩))
    (first | trivial | omega | rfl | assumption | (unfold i64ok; omega) | exact ⟨rfl, rfl⟩ | exact ⟨trivial, rfl⟩)
  · obtain ⟨g1, g2, g3⟩ := h4 (by simpa using hB)
    obtain ⟨b1, b2, b3, b4, b5, b6⟩ := h5 (F.bsI l t - 1) (by omega)
    have p1 := pt_zero a3
    have p2 := pt_zero b3
    have hp : ((F.bsI l t : Int) - 1).toNat = F.bsI l t - 1 := by omega
    simp only [T.wp, T.wp_cond, Aft, Int.ofNat_eq_natCast, decide_eq_true_eq, and_true, true_and, Nat.zero_add, Bool.not_eq_true', decide_eq_false_iff_not, hd, hB, if_false, Int.toNat_natCast, hp, Bool.false_eq_true]
    unfold F.mixN
    unfold F.nt at *
    generalize F.bsI l t = k at *
    generalize l.getD k F.nd0 = e at *
    generalize l.getD (k - 1) F.nd0 = f at *
    obtain ⟨c1, c2, c3, c4, c5⟩ := lerp_need (a := f.2.2.2.1) (b := e.2.2.2.1) (n := t - f.1) (d := e.1 - f.1) (B := 1000000) (by omega) (by omega) (by omega) (by omega) (by omega) (by omega) (by omega)
    obtain ⟨d1, d2, d3, d4, d5⟩ := lerp_need (a := f.2.2.2.2.1) (b := e.2.2.2.2.1) (n := t - f.1) (d := e.1 - f.1) (B := 1000000) (by omega) (by omega) (by omega) (by omega) (by omega) (by omega) (by omega)
    obtain ⟨e1, e2, e3, e4, e5⟩ := lerp_need (a := f.2.2.2.2.2) (b := e.2.2.2.2.2) (n := t - f.1) (d := e.1 - f.1) (B := 1000000) (by omega) (by omega) (by omega) (by omega) (by omega) (by omega) (by omega)
    unfold F.lerp F.lerpU at *
    have hdd : 0 < e.1 - f.1 := by omega
    (repeat (refine ⟨(by first | assumption | omega | (unfold i64ok; omega) | (refine ⟨?_, ?_⟩ <;> first | assumption | omega | (refine ⟨?_, ?_⟩ <;> first | assumption | omega))), ?_⟩))
    (first | trivial | omega | rfl | assumption | (unfold i64ok; omega) | exact ⟨rfl, rfl⟩ | exact ⟨trivial, rfl⟩)



noncomputable def s_tat : Summ cod := fun args H => match args, H with
  | [.c (.slc 0 l_i l_n l_t), .c (.int .i64 t)], [o0] => (match o0.asInp 2 with | some l => .need ((l_i = 0 ∧ l_n = List.length l) ∧ (F.atE l t = 0 ∧ 0 ≤ t ∧ t ≤ 200000)) (.ret (.agg [.int .i64 (F.atN l t).1, .int .i64 (F.atN l t).2.1, .int .i64 (F.atN l t).2.2.1, .int .i64 (F.atN l t).2.2.2.1, .int .i64 (F.atN l t).2.2.2.2.1, .int .i64 (F.atN l t).2.2.2.2.2], [])) | none => .fail)
  | _, _ => .fail


theorem tat_sound : Sound Try.prog cod 86 s_tat := sound_runs (cfg := C_ends) L_ends_ok mixed Try.func86 rfl rfl _ fun args H r news hg b0 hb => by
  unfold s_tat at hg
  split at hg
  · skip
    split at hg
    · rename_i l hx0
      cases asInp_spec hx0
      simp only [T.gives, T.wp, Prod.mk.injEq] at hg
      obtain ⟨⟨⟨rfl, rfl⟩, q1⟩, rfl, rfl⟩ := hg
      exact tat_run _ _ _ b0 hb (by assumption)
    · exact hg.elim
  · exact hg.elim

noncomputable def L_tat : Sums cod := (86, .p s_tat) :: L_ends
noncomputable def C_tat : Cfg cod := mkC L_tat

theorem L_tat_ok : Snd Try.prog cod L_tat := .cons tat_sound L_ends_ok



def cuts_tAt : Cuts := []

theorem tAt_t0 (l : List (Int × Int × Int × Int × Int × Int)) (l_t : Bool) (t : Int) : symF C_tat cuts_tAt Try.f55.results.toList 1 400 [.code (codeOf Try.f55)] ⟨argsS Try.f55 [.c (.slc 0 0 (List.length l) l_t), .c (.int .i64 t)], ([.inp 2 l] : Heap cod)⟩ =
.need ((0 = 0 ∧ List.length l = List.length l)) (
 cond (!decide (F.tubeE l = 0)) (
 .ret (.fin (.tup [.agg [.int .i64 0, .int .i64 0, .int .i64 0, .int .i64 0, .int .i64 0, .int .i64 0], .c (.int .i64 (F.tubeE l))]) [])) (
 .need (((0 = 0 ∧ List.length l = List.length l) ∧ ((0 : Nat) < List.length l ∧ List.length l ≤ 64))) (
 cond (decide (t < F.nt l 0)) (
  .ret (.fin (.tup [.agg [.int .i64 0, .int .i64 0, .int .i64 0, .int .i64 0, .int .i64 0, .int .i64 0], .c (.int .i64 12)]) [])) (
  cond (decide (F.nt l (List.length l - 1) < t)) (
   .ret (.fin (.tup [.agg [.int .i64 0, .int .i64 0, .int .i64 0, .int .i64 0, .int .i64 0, .int .i64 0], .c (.int .i64 12)]) [])) (
   .need (((0 = 0 ∧ List.length l = List.length l) ∧ (F.atE l t = 0 ∧ ((0 : Int) ≤ t ∧ t ≤ 200000)))) (
   .ret (.fin (.tup [.agg [.int .i64 ((F.atN l t).1), .int .i64 ((F.atN l t).2.1), .int .i64 ((F.atN l t).2.2.1), .int .i64 ((F.atN l t).2.2.2.1), .int .i64 ((F.atN l t).2.2.2.2.1), .int .i64 ((F.atN l t).2.2.2.2.2)], .c (.int .i64 0)]) []))))))) := by kernel_rfl



theorem tAt_run (l : List (Int × Int × Int × Int × Int × Int)) (l_t : Bool) (t : Int) (b0 : Base) (hb : b0.n = 1)  : Sym.Runs Try.prog b0 [.code (codeOf Try.f55)] ⟨argsS Try.f55 [.c (.slc 0 0 (List.length l) l_t), .c (.int .i64 t)], ([.inp 2 l] : Heap cod)⟩ (Sym.Ends Try.prog Try.f55 1 (.tup [.agg [.int .i64 (F.atR l t).1, .int .i64 (F.atR l t).2.1, .int .i64 (F.atR l t).2.2.1, .int .i64 (F.atR l t).2.2.2.1, .int .i64 (F.atR l t).2.2.2.2.1, .int .i64 (F.atR l t).2.2.2.2.2], .c (.int .i64 (F.atE l t))]) []) := by
  refine Runs.go (cfg := C_tat) L_tat_ok mixed cuts_tAt 400 hb (tAt_t0 l l_t t) ?_
  by_cases h1 : F.tubeE l = 0
  rotate_left
  · have e : F.atE l t = F.tubeE l := by unfold F.atE; rw [if_neg h1]
    have e2 : F.atR l t = F.nd0 := by unfold F.atR; rw [if_neg (by rw [e]; exact h1)]
    simp only [T.wp, T.wp_cond, Aft, Int.ofNat_eq_natCast, decide_eq_true_eq, and_true, true_and, Nat.zero_add, Bool.not_eq_true', decide_eq_false_iff_not, h1, e, e2, not_false_eq_true, if_true]
    (first | trivial | omega | rfl | assumption | (unfold i64ok; omega) | exact ⟨rfl, rfl⟩ | exact ⟨trivial, rfl⟩)
  obtain ⟨g1, g2⟩ := tubeE_zero h1
  by_cases h2 : t < F.nt l 0
  · have e : F.atE l t = 12 := by unfold F.atE; rw [if_pos h1, if_pos h2]
    have e2 : F.atR l t = F.nd0 := by unfold F.atR; rw [if_neg (by rw [e]; omega)]
    simp only [T.wp, T.wp_cond, Aft, Int.ofNat_eq_natCast, decide_eq_true_eq, and_true, true_and, Nat.zero_add, Bool.not_eq_true', decide_eq_false_iff_not, h1, h2, e, e2, not_true_eq_false, if_false, if_true]
    (repeat (refine ⟨(by first | rfl | trivial | assumption | omega | (unfold i64ok; omega) | (simp only [List.length_cons, List.length_nil]; omega) | exact ⟨by omega, trivial⟩), ?_⟩))
    (first | trivial | omega | rfl | assumption | (unfold i64ok; omega) | exact ⟨rfl, rfl⟩ | exact ⟨trivial, rfl⟩)
  by_cases h3 : F.nt l (l.length - 1) < t
  · have e : F.atE l t = 12 := by unfold F.atE; rw [if_pos h1, if_neg h2, if_pos h3]
    have e2 : F.atR l t = F.nd0 := by unfold F.atR; rw [if_neg (by rw [e]; omega)]
    simp only [T.wp, T.wp_cond, Aft, Int.ofNat_eq_natCast, decide_eq_true_eq, and_true, true_and, Nat.zero_add, Bool.not_eq_true', decide_eq_false_iff_not, h1, h2, h3, e, e2, not_true_eq_false, if_false, if_true]
    (repeat (refine ⟨(by first | rfl | trivial | assumption | omega | (unfold i64ok; omega) | (simp only [List.length_cons, List.length_nil]; omega) | exact ⟨by omega, trivial⟩), ?_⟩))
    (first | trivial | omega | rfl | assumption | (unfold i64ok; omega) | exact ⟨rfl, rfl⟩ | exact ⟨trivial, rfl⟩)
  have e : F.atE l t = 0 := by unfold F.atE; rw [if_pos h1, if_neg h2, if_neg h3]
  have e2 : F.atR l t = F.atN l t := by unfold F.atR; rw [if_pos e]
  have k1 := (g2 0 (by omega)).1
  have k2 := (g2 (l.length - 1) (by omega)).1
  simp only [T.wp, T.wp_cond, Aft, Int.ofNat_eq_natCast, decide_eq_true_eq, and_true, true_and, Nat.zero_add, Bool.not_eq_true', decide_eq_false_iff_not, h1, h2, h3, e, e2, not_true_eq_false, if_false]
  (repeat (refine ⟨(by first | rfl | trivial | assumption | omega | (unfold i64ok; omega) | (simp only [List.length_cons, List.length_nil]; omega) | exact ⟨by omega, trivial⟩), ?_⟩))
  (first | trivial | omega | rfl | assumption | (unfold i64ok; omega) | exact ⟨rfl, rfl⟩ | exact ⟨trivial, rfl⟩)



noncomputable def s_tAt : Summ cod := fun args H => match args, H with
  | [.c (.slc 0 l_i l_n l_t), .c (.int .i64 t)], [o0] => (match o0.asInp 2 with | some l => .need ((l_i = 0 ∧ l_n = List.length l)) (.ret (.tup [.agg [.int .i64 (F.atR l t).1, .int .i64 (F.atR l t).2.1, .int .i64 (F.atR l t).2.2.1, .int .i64 (F.atR l t).2.2.2.1, .int .i64 (F.atR l t).2.2.2.2.1, .int .i64 (F.atR l t).2.2.2.2.2], .c (.int .i64 (F.atE l t))], [])) | none => .fail)
  | _, _ => .fail


theorem tAt_sound : Sound Try.prog cod 55 s_tAt := sound_runs (cfg := C_tat) L_tat_ok mixed Try.func55 rfl rfl _ fun args H r news hg b0 hb => by
  unfold s_tAt at hg
  split at hg
  · skip
    split at hg
    · rename_i l hx0
      cases asInp_spec hx0
      simp only [T.gives, T.wp, Prod.mk.injEq] at hg
      obtain ⟨⟨rfl, rfl⟩, rfl, rfl⟩ := hg
      exact tAt_run _ _ _ b0 hb 
    · exact hg.elim
  · exact hg.elim

noncomputable def L_tAt : Sums cod := (55, .p s_tAt) :: L_tat
noncomputable def C_tAt : Cfg cod := mkC L_tAt

theorem L_tAt_ok : Snd Try.prog cod L_tAt := .cons tAt_sound L_tat_ok


end
end Go.Proofs.Ythljcjighomgkaa
