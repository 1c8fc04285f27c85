/- skywaylaw2.GateFits where Fits answers an error. -/
import Derived.Test.YtlhphogdedcalaaGateB
import Derived.Test.YtlhphogdedcalaaLift
import Derived.Test.YtlhphogdedcalaaOpen
namespace Go.Proofs.Ytlhphogdedcalaa.Gate
open Go.ChangeShapes Go.WideShapes Go.ChangeAt Go.RowKit

theorem held_step {w W X w5 : World} {b1 b2 : Nat} {cs1 cs2 : Array Value} (h1 : b1 < X.heap.size) (h2 : b2 < X.heap.size) (c1 : ∀ i, X.cell? ⟨b1, i, none⟩ = cs1[i]?) (c2 : ∀ i, X.cell? ⟨b2, i, none⟩ = cs2[i]?) (hb : Below W.heap.size W X) (h5 : Below X.heap.size X w5) :
    (∀ i, w5.cell? ⟨b1, i, none⟩ = cs1[i]?) ∧ (∀ i, w5.cell? ⟨b2, i, none⟩ = cs2[i]?) ∧ Below W.heap.size W w5 :=
  ⟨fun i => (h5.cell (p := ⟨b1, i, none⟩) h1).trans (c1 i), fun i => (h5.cell (p := ⟨b2, i, none⟩) h2).trans (c2 i), hb.trans (h5.mono hb.size)⟩

/-- What the law does with Reach's answer. -/
def Front (sl ac se n c : Int) : Prop :=
  (¬ (0 ≤ sl ∧ sl ≤ 409600) ∧ n = 0 ∧ c = 4) ∨ ((0 ≤ sl ∧ sl ≤ 409600) ∧ ¬ (0 ≤ ac ∧ ac ≤ 20) ∧ n = 0 ∧ c = 4) ∨ ((0 ≤ sl ∧ sl ≤ 409600) ∧ (0 ≤ ac ∧ ac ≤ 20) ∧ ¬ (0 ≤ se ∧ se ≤ 600) ∧ n = 0 ∧ c = 12) ∨
  ((0 ≤ sl ∧ sl ≤ 409600) ∧ (0 ≤ ac ∧ ac ≤ 20) ∧ (0 ≤ se ∧ se ≤ 600) ∧ (∀ w, Calls Try.prog 9 #[.int .i64 sl, .int .i64 ac, .int .i64 se] w fun e w' => e = .returned (.int .i64 n) ∧ w = w') ∧ c = 0)
theorem Front.of {sl ac se n c : Int} (h : Reaches sl ac se n c) : Front sl ac se n c := by
  rcases h with ⟨h, rfl, rfl⟩ | ⟨h1, h2, h, rfl, rfl⟩ | ⟨h1, h2, rfl, rfl, rfl⟩ | ⟨h1, h2, h3, rfl, rfl⟩
  · by_cases h1 : 0 ≤ sl ∧ sl ≤ 409600
    · exact .inr (.inl ⟨h1, fun h2 => h ⟨h1, h2⟩, rfl, rfl⟩)
    · exact .inl ⟨h1, rfl, rfl⟩
  · exact .inr (.inr (.inl ⟨h1, h2, h, rfl, rfl⟩))
  · exact .inr (.inr (.inr ⟨h1, h2, by omega, grown_zero sl ac, rfl⟩))
  · exact .inr (.inr (.inr ⟨h1, h2, by omega, grown_any sl ac se h1.1 h1.2 h2.1 h2.2 h3.1 h3.2, rfl⟩))

theorem reach0 (w : World) : Calls Try.prog 7 #[.int .i64 16, .int .i64 2, .int .i64 10] w fun e w' => e = .returned (.tuple #[.int .i64 112, .int .i64 0]) ∧ w = w' :=
  reach_any 16 2 10 112 0 (.inr (.inr (.inr ⟨by omega, by omega, by omega, by decide, rfl⟩))) w


set_option maxRecDepth 100000 in
set_option maxHeartbeats 16000000 in
theorem walk_err (t : Track) (s : Spot) (band sl ac se n c d : Int) (hr : Reaches sl ac se n c) (hf : FErr t s band d) (w : World) :
    Calls Try.prog 3 #[.agg #[.int .i64 t.id, .int .i64 t.st, .int .i64 t.t, .int .i64 t.x, .int .i64 t.y, .int .i64 t.u, .int .i64 t.v, .int .i64 t.h, .int .i64 t.rate, .int .i64 t.rad, .int .i64 t.c, .int .i64 t.hits, .int .i64 t.miss], .agg #[.int .i64 s.t, .int .i64 s.x, .int .i64 s.y, .int .i64 s.h, .int .i64 s.c, .int .i64 s.e], .int .i64 band, .int .i64 sl, .int .i64 ac, .int .i64 se] w fun e w' => e = .returned (.bool true) ∧ Below w.heap.size w w' := by
  have HR := Lib.hid (reach_any sl ac se n c hr)
  have hg : (n != n) = false := by simp
  have FE := Lib.hid hf
  have fr := Front.of hr
  clear hr hf
  rcases fr with ⟨h, rfl, rfl⟩ | ⟨⟨h0, h1⟩, h, rfl, rfl⟩ | ⟨⟨h0, h1⟩, ⟨h2, h3⟩, h, rfl, rfl⟩ | ⟨⟨h0, h1⟩, ⟨h2, h3⟩, ⟨h4, h5⟩, gn, rfl⟩
  all_goals
    try (have GN := Lib.hid gn; clear gn)
    go_enter Try.func3, Try.ntmps3
    go_wp2_with (first | (go_at_call 7; (with_reducible refine (reach0 _).mono ?_); rintro e w' ⟨rfl, rfl⟩) | (go_at_call 7; (with_reducible refine (HR.out _).mono ?_); rintro e w' ⟨rfl, rfl⟩) | (go_at_call 8; refine (in2_yes _ _ _ (by omega) _).mono ?_; rintro e w' ⟨rfl, rfl⟩) | (go_at_call 8; refine (in2_no _ _ _ (by omega) _).mono ?_; rintro e w' ⟨rfl, rfl⟩) | (go_at_call 9; refine (GN.out _).mono ?_; rintro e w' ⟨rfl, rfl⟩))
    refine (fits_err t s band d FE.out _).mono ?_
    rintro e w1 ⟨rfl, hb⟩
    have B : Hid (Below w.heap.size w w1) := Lib.hid (Below.trans (by (repeat' (first | (with_reducible exact Below.refl _ _) | (with_reducible assumption) | (with_reducible refine below_drewN ?_ _) | (with_reducible refine Below.drew ?_) | (with_reducible refine Below.alloc ?_ ?_ _) | (with_reducible refine Below.setCell ?_ ?_ _) | (with_reducible exact Nat.le_refl _) | omega | (simp; omega) | (simp; done)))) (hb.mono (by simp; omega)))
    have k1 : Blk w1 w.heap.size 25 #[.int .i64 t.id, .int .i64 t.st, .int .i64 t.t, .int .i64 t.x, .int .i64 t.y, .int .i64 t.u, .int .i64 t.v, .int .i64 t.h, .int .i64 t.rate, .int .i64 t.rad, .int .i64 t.c, .int .i64 t.hits, .int .i64 t.miss] := Blk.below' (by (repeat' (first | (with_reducible assumption) | (with_reducible exact Blk.new _ _ _) | (refine Blk.new' _ _ _ ?_; (first | rfl | (simp; done) | (simp; omega)); done) | (with_reducible refine Blk.alloc ?_ _) | (with_reducible refine Blk.drew ?_) | (with_reducible refine Blk.drewN ?_ _)))) hb
    have k2 : Blk w1 (w.heap.size + 1) 27 #[.int .i64 s.t, .int .i64 s.x, .int .i64 s.y, .int .i64 s.h, .int .i64 s.c, .int .i64 s.e] := Blk.below' (by (repeat' (first | (with_reducible assumption) | (with_reducible exact Blk.new _ _ _) | (refine Blk.new' _ _ _ ?_; (first | rfl | (simp; done) | (simp; omega)); done) | (with_reducible refine Blk.alloc ?_ _) | (with_reducible refine Blk.drew ?_) | (with_reducible refine Blk.drewN ?_ _)))) hb
    clear hb
    obtain ⟨m1, f1, z1⟩ := k1.rules
    obtain ⟨m2, f2, z2⟩ := k2.rules
    rcases FE.out with ⟨ht, rfl⟩ | ⟨ht, hs, rfl⟩ | ⟨ht, hs, hbd, rfl⟩ | ⟨ht, hs, ⟨b0, b1⟩, hne, rfl⟩
    · have HT := Lib.hid ht
      clear ht
      go_wp2_with fail
      refine (trackPart_no t HT.out _).mono ?_
      rintro e w2 ⟨rfl, hb⟩
      have B2 : Hid (Below w.heap.size w w2) := Lib.hid (Below.trans (by have := B.out; have := B.out.size; (repeat' (first | (with_reducible exact Below.refl _ _) | (with_reducible assumption) | (with_reducible refine below_drewN ?_ _) | (with_reducible refine Below.drew ?_) | (with_reducible refine Below.alloc ?_ ?_ _) | (with_reducible refine Below.setCell ?_ ?_ _) | (with_reducible exact Nat.le_refl _) | omega | (simp; omega) | (simp; done)))) (hb.mono (by have := B.out.size; simp; omega)))
      clear hb
      go_wp2
      go_returns
      exact ⟨rfl, B2.out⟩
    · have HT := Lib.hid ht
      have HS := Lib.hid hs
      clear ht hs
      go_wp2_with (go_at_call 11; refine (trackPart_yes t HT.out _).mono ?_; rintro e w' ⟨rfl, rfl⟩)
      refine (spotError_no s HS.out _).mono ?_
      rintro e w2 ⟨rfl, hb⟩
      have B2 : Hid (Below w.heap.size w w2) := Lib.hid (Below.trans (by have := B.out; have := B.out.size; (repeat' (first | (with_reducible exact Below.refl _ _) | (with_reducible assumption) | (with_reducible refine below_drewN ?_ _) | (with_reducible refine Below.drew ?_) | (with_reducible refine Below.alloc ?_ ?_ _) | (with_reducible refine Below.setCell ?_ ?_ _) | (with_reducible exact Nat.le_refl _) | omega | (simp; omega) | (simp; done)))) (hb.mono (by have := B.out.size; simp; omega)))
      clear hb
      go_wp2
      go_returns
      exact ⟨rfl, B2.out⟩
    · have HT := Lib.hid ht
      have HS := Lib.hid hs
      clear ht hs
      go_wp2_with (first | (go_at_call 11; refine (trackPart_yes t HT.out _).mono ?_; rintro e w' ⟨rfl, rfl⟩) | (go_at_call 12; refine (spotError_yes s HS.out _).mono ?_; rintro e w' ⟨rfl, rfl⟩) | (go_at_call 8; refine (in2_no _ _ _ hbd _).mono ?_; rintro e w' ⟨rfl, rfl⟩))
      go_returns
      exact ⟨rfl, by have := B.out; have := B.out.size; (repeat' (first | (with_reducible exact Below.refl _ _) | (with_reducible assumption) | (with_reducible refine below_drewN ?_ _) | (with_reducible refine Below.drew ?_) | (with_reducible refine Below.alloc ?_ ?_ _) | (with_reducible refine Below.setCell ?_ ?_ _) | (with_reducible exact Nat.le_refl _) | omega | (simp; omega) | (simp; done)))⟩
    · have HT := Lib.hid ht
      have HS := Lib.hid hs
      have hn : (t.t != s.t) = true := by simpa using hne
      clear ht hs hne
      go_wp2_with (first | (go_at_call 11; refine (trackPart_yes t HT.out _).mono ?_; rintro e w' ⟨rfl, rfl⟩) | (go_at_call 12; refine (spotError_yes s HS.out _).mono ?_; rintro e w' ⟨rfl, rfl⟩) | (go_at_call 8; refine (in2_yes _ _ _ (by omega) _).mono ?_; rintro e w' ⟨rfl, rfl⟩))
      go_returns
      exact ⟨rfl, by have := B.out; have := B.out.size; (repeat' (first | (with_reducible exact Below.refl _ _) | (with_reducible assumption) | (with_reducible refine below_drewN ?_ _) | (with_reducible refine Below.drew ?_) | (with_reducible refine Below.alloc ?_ ?_ _) | (with_reducible refine Below.setCell ?_ ?_ _) | (with_reducible exact Nat.le_refl _) | omega | (simp; omega) | (simp; done)))⟩
end Go.Proofs.Ytlhphogdedcalaa.Gate
