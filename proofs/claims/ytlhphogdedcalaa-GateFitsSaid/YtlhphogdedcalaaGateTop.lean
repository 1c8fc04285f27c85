/- skywaylaw2.GateFits returns true at every input: Reach and Fits return what the document says. No condition. -/
import Derived.Test.YtlhphogdedcalaaGateFits
import Derived.Test.YtlhphogdedcalaaLift
import Derived.Test.YtlhphogdedcalaaOpen13
namespace Go.Proofs.Ytlhphogdedcalaa.Gate
open Go.ChangeShapes Go.WideShapes Go.ChangeAt Go.RowKit

set_option maxRecDepth 100000 in
set_option maxHeartbeats 4000000 in
theorem walkA {H : Type} {enc : TypeId × Value → H} (W : World) (args : Array Value) (ds : List (DataW H)) (p : List MemPlace) (h : Lift.Args enc Try.prog Try.f3 W args ds p) :
    Calls Try.prog 3 args W fun e W' => e = .returned (.bool true) ∧ Below W.heap.size W W' := by
  obtain ⟨hval, hA, hlt, hreach, hfree⟩ := h
  rw [Try.params3] at hA hval
  obtain ⟨v0, vs0, d0, ds0, p0, q0, hargs, rfl, rfl, h0, r0⟩ := trodAll_cons hA
  obtain ⟨v1, vs1, d1, ds1, p1, q1, rfl, rfl, rfl, h1, r1⟩ := trodAll_cons r0
  obtain ⟨v2, vs2, d2, ds2, p2, q2, rfl, rfl, rfl, h2, r2⟩ := trodAll_cons r1
  obtain ⟨v3, vs3, d3, ds3, p3, q3, rfl, rfl, rfl, h3, r3⟩ := trodAll_cons r2
  obtain ⟨v4, vs4, d4, ds4, p4, q4, rfl, rfl, rfl, h4, r4⟩ := trodAll_cons r3
  obtain ⟨v5, vs5, d5, ds5, p5, q5, rfl, rfl, rfl, h5, r5⟩ := trodAll_cons r4
  obtain ⟨rfl, rfl, rfl⟩ := trodAll_nil r5
  obtain rfl : args = #[v0, v1, v2, v3, v4, v5] := by cases args; simp_all
  obtain ⟨_, b0⟩ := hval 0 25 v0 rfl rfl
  obtain ⟨_, b1⟩ := hval 1 27 v1 rfl rfl
  obtain ⟨_, b2⟩ := hval 2 3 v2 rfl rfl
  obtain ⟨_, b3⟩ := hval 3 3 v3 rfl rfl
  obtain ⟨_, b4⟩ := hval 4 3 v4 rfl rfl
  obtain ⟨_, b5⟩ := hval 5 3 v5 rfl rfl
  obtain ⟨cs0, rfl, k0⟩ := open_val (ls := [3, 3, 3, 3, 3, 3, 3, 3, 3, 3, 3, 3, 3]) 4 (by kernel_rfl) (by kernel_rfl) b0 h0
  obtain ⟨cs1, rfl, k1⟩ := open_val (ls := [3, 3, 3, 3, 3, 3]) 4 (by kernel_rfl) (by kernel_rfl) b1 h1
  obtain ⟨e0, e1, e2, e3, e4, e5, e6, e7, e8, e9, e10, e11, e12, rfl⟩ := ints13 Try.underlying3 k0
  obtain ⟨f0, f1, f2, f3, f4, f5, rfl, _⟩ := ints6 Try.underlying3 k1
  obtain ⟨a2, rfl, rfl, rfl, _⟩ := open_int Try.underlying3 b2 h2
  obtain ⟨a3, rfl, rfl, rfl, _⟩ := open_int Try.underlying3 b3 h3
  obtain ⟨a4, rfl, rfl, rfl, _⟩ := open_int Try.underlying3 b4 h4
  obtain ⟨a5, rfl, rfl, rfl, _⟩ := open_int Try.underlying3 b5 h5
  exact walk ⟨e0, e1, e2, e3, e4, e5, e6, e7, e8, e9, e10, e11, e12⟩ ⟨f0, f1, f2, f3, f4, f5⟩ a2 a3 a4 a5 W

set_option maxRecDepth 100000 in
theorem lifted (os : Os) (started : os.Started) (H : Type) (enc : TypeId × Value → H) :
    ReturnsInHanded {} Try.checked os 3 .any (Rows.gateFitsSpec.pre6 enc Try.prog Try.f3 [] false) (Rows.gateFitsSpec.post enc Try.prog Try.f3 false true false false) :=
  Lift.law (C := Try.checked) (tb := 4) (by kernel_rfl) started (by kernel_rfl) Try.func3
    (ChangeSpec.witness6 (enc := enc) (C := Try.checked) false ⟨#[], #[.agg #[.int .i64 0, .int .i64 0, .int .i64 0, .int .i64 0, .int .i64 0, .int .i64 0, .int .i64 0, .int .i64 0, .int .i64 0, .int .i64 0, .int .i64 0, .int .i64 0, .int .i64 0], .agg #[.int .i64 0, .int .i64 0, .int .i64 0, .int .i64 0, .int .i64 0, .int .i64 0], .int .i64 0, .int .i64 0, .int .i64 0, .int .i64 0], []⟩ 8 (by kernel_rfl) (by kernel_rfl) (by kernel_rfl) (by kernel_rfl))
    rfl rfl Try.underlying4 (by kernel_rfl) (by kernel_rfl)
    (by intro ds hds; rw [Try.params3] at hds; simp only [List.length_cons, List.length_nil] at hds; match ds, hds with | [_, _, _, _, _, _], _ => rfl)
    (fun W args ds p h => walkA W args ds p h)

theorem over : Rows.gateFitsRow.holds Try.pinned (OpenSpec.ofChange Rows.gateFitsSpec) :=
  OpenClaim.holds_of_wide 3 Try.f3 rfl rfl rfl rfl rfl rfl rfl ⟨rfl, rfl, rfl, rfl, rfl⟩ rfl rfl rfl rfl rfl (by kernel_rfl) Try.func3 (by kernel_rfl)
    (of_decide_eq_true (by kernel_rfl)) (by unfold Func.isWrapper; first | (rw [if_pos (by decide +kernel)]; kernel_rfl) | (rw [if_neg (by decide +kernel)]; exact ⟨rfl, rfl⟩))
    (fun os started H enc _ => lifted os started H enc)

/-- THE STATEMENT -/
theorem proved : Rows.GateFitsSaid := over
#print axioms proved

end Go.Proofs.Ytlhphogdedcalaa.Gate
