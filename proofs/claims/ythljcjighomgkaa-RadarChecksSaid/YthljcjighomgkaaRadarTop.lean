/- skywaylaw2.RadarChecks returns true at every input. -/
import Derived.Test.YthljcjighomgkaaFr
import Derived.Test.YthljcjighomgkaaSym21
import Derived.Test.YthljcjighomgkaaLift
namespace Go.Proofs.Ythljcjighomgkaa.RadarChecks
open Go.ChangeShapes Go.WideShapes Go.ChangeAt Go.RowKit Sym

set_option maxRecDepth 100000 in
set_option maxHeartbeats 4000000 in
theorem walkA {H : Type} {enc : TypeId × Value → H} (W : World) (args : Array Value) (ds : List (DataW H)) (p : List MemPlace) (h : Lift.Args enc Try.prog Try.f5 W args ds p) :
    Calls Try.prog 5 args W fun e W' => e = .returned (.bool true) ∧ Below W.heap.size W W' := by
  obtain ⟨hval, hA, hlt, hreach, hfree⟩ := h
  rw [Try.params5] at hA hval
  obtain ⟨v0, vs0, d0, ds0, p0, q0, hargs, rfl, rfl, h0, r0⟩ := trodAll_cons hA
  obtain ⟨v1, vs1, d1, ds1, p1, q1, rfl, rfl, rfl, h1, r1⟩ := trodAll_cons r0
  obtain ⟨v2, vs2, d2, ds2, p2, q2, rfl, rfl, rfl, h2, r2⟩ := trodAll_cons r1
  obtain ⟨v3, vs3, d3, ds3, p3, q3, rfl, rfl, rfl, h3, r3⟩ := trodAll_cons r2
  obtain ⟨v4, vs4, d4, ds4, p4, q4, rfl, rfl, rfl, h4, r4⟩ := trodAll_cons r3
  obtain ⟨rfl, rfl, rfl⟩ := trodAll_nil r4
  obtain rfl : args = #[v0, v1, v2, v3, v4] := by cases args; simp_all
  obtain ⟨_, b0⟩ := hval 0 49 v0 rfl rfl
  obtain ⟨_, b1⟩ := hval 1 51 v1 rfl rfl
  obtain ⟨_, b2⟩ := hval 2 27 v2 rfl rfl
  obtain ⟨_, b3⟩ := hval 3 23 v3 rfl rfl
  obtain ⟨_, b4⟩ := hval 4 3 v4 rfl rfl
  obtain ⟨c0, rfl, k0⟩ := open_val (ls := List.replicate 6 3) 4 (by kernel_rfl) (by kernel_rfl) b0 h0
  obtain ⟨c1, rfl, k1⟩ := open_val (ls := List.replicate 6 3) 4 (by kernel_rfl) (by kernel_rfl) b1 h1
  obtain ⟨c2, rfl, k2⟩ := open_val (ls := List.replicate 6 3) 4 (by kernel_rfl) (by kernel_rfl) b2 h2
  obtain ⟨c3, rfl, k3⟩ := open_val (ls := List.replicate 2 3) 4 (by kernel_rfl) (by kernel_rfl) b3 h3
  obtain ⟨a4, rfl, rfl, rfl, _⟩ := open_int Try.underlying3 b4 h4
  obtain ⟨l0, n0, e0, -⟩ := ints_any Try.underlying3 _ k0
  obtain ⟨l1, n1, e1, -⟩ := ints_any Try.underlying3 _ k1
  obtain ⟨l2, n2, e2, -⟩ := ints_any Try.underlying3 _ k2
  obtain ⟨l3, n3, e3, -⟩ := ints_any Try.underlying3 _ k3
  refine law_call rlaw_sound (args := [.agg (ints l0), .agg (ints l1), .agg (ints l2), .agg (ints l3), .c (.int .i64 a4)]) (H := []) [] ?_ rfl .nil (.cons (vrel_ints _ e0) (.cons (vrel_ints _ e1) (.cons (vrel_ints _ e2) (.cons (vrel_ints _ e3) (.cons (vrel_int _) .nil)))))
  match l0, n0, l1, n1, l2, n2, l3, n3 with
  | [_, _, _, _, _, _], _, [_, _, _, _, _, _], _, [_, _, _, _, _, _], _, [_, _], _ => exact rfl

set_option maxRecDepth 100000 in
theorem lifted (os : Os) (started : os.Started) (H : Type) (enc : TypeId × Value → H) :
    ReturnsInHanded {} Try.checked os 5 .any (Rows.radarChecksSpec.pre6 enc Try.prog Try.f5 [] false) (Rows.radarChecksSpec.post enc Try.prog Try.f5 false true false false) :=
  Lift.law (C := Try.checked) (tb := 4) (by kernel_rfl) started (by kernel_rfl) Try.func5
    (ChangeSpec.witness6 (enc := enc) (C := Try.checked) false ⟨#[], #[.agg #[.int .i64 0, .int .i64 0, .int .i64 0, .int .i64 0, .int .i64 0, .int .i64 0], .agg #[.int .i64 0, .int .i64 0, .int .i64 0, .int .i64 0, .int .i64 0, .int .i64 0], .agg #[.int .i64 0, .int .i64 0, .int .i64 0, .int .i64 0, .int .i64 0, .int .i64 0], .agg #[.int .i64 0, .int .i64 0], .int .i64 0], []⟩ 8 (by kernel_rfl) (by kernel_rfl) (by kernel_rfl) (by kernel_rfl))
    rfl rfl Try.underlying4 (by kernel_rfl) (by kernel_rfl)
    (by intro ds hds; rw [Try.params5] at hds; simp only [List.length_cons, List.length_nil] at hds; match ds, hds with | [_, _, _, _, _], _ => rfl)
    (fun W args ds p h => walkA W args ds p h)

theorem over : Rows.radarChecksRow.holds Try.pinned (OpenSpec.ofChange Rows.radarChecksSpec) :=
  OpenClaim.holds_of_wide 5 Try.f5 rfl rfl rfl rfl rfl rfl rfl ⟨rfl, rfl, rfl, rfl, rfl⟩ rfl rfl rfl rfl rfl (by kernel_rfl) Try.func5 (by kernel_rfl)
    (of_decide_eq_true (by kernel_rfl)) (by unfold Func.isWrapper; first | (rw [if_pos (by decide +kernel)]; kernel_rfl) | (rw [if_neg (by decide +kernel)]; exact ⟨rfl, rfl⟩))
    (fun os started H enc _ => lifted os started H enc)

/-- THE STATEMENT -/
theorem proved : Rows.RadarChecksSaid := over
#print axioms proved

end Go.Proofs.Ythljcjighomgkaa.RadarChecks
