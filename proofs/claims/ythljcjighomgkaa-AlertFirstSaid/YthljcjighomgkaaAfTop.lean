/- skywaylaw2.AlertFirst returns true at every input. No condition. -/
import Derived.Test.YthljcjighomgkaaFs
import Derived.Test.YthljcjighomgkaaSym23
import Derived.Test.YthljcjighomgkaaLift
namespace Go.Proofs.Ythljcjighomgkaa.AlertFirst
open Go.ChangeShapes Go.WideShapes Go.ChangeAt Go.RowKit Sym
open Go.ChangeMaps (open_string)

set_option maxRecDepth 100000 in
set_option maxHeartbeats 4000000 in
theorem walkA {H : Type} {enc : TypeId × Value → H} (W : World) (args : Array Value) (ds : List (DataW H)) (p : List MemPlace) (h : Lift.Args enc Try.prog Try.f9 W args ds p) :
    Calls Try.prog 9 args W fun e W' => e = .returned (.bool true) ∧ Below W.heap.size W W' := by
  obtain ⟨hval, hA, hlt, hreach, hfree⟩ := h
  rw [Try.params9] at hA hval
  obtain ⟨v0, vs0, d0, ds0, p0, q0, hargs, rfl, rfl, h0, r0⟩ := trodAll_cons hA
  obtain ⟨v1, vs1, d1, ds1, p1, q1, rfl, rfl, rfl, h1, r1⟩ := trodAll_cons r0
  obtain ⟨v2, vs2, d2, ds2, p2, q2, rfl, rfl, rfl, h2, r2⟩ := trodAll_cons r1
  obtain ⟨v3, vs3, d3, ds3, p3, q3, rfl, rfl, rfl, h3, r3⟩ := trodAll_cons r2
  obtain ⟨v4, vs4, d4, ds4, p4, q4, rfl, rfl, rfl, h4, r4⟩ := trodAll_cons r3
  obtain ⟨v5, vs5, d5, ds5, p5, q5, rfl, rfl, rfl, h5, r5⟩ := trodAll_cons r4
  obtain ⟨rfl, rfl, rfl⟩ := trodAll_nil r5
  obtain rfl : args = #[v0, v1, v2, v3, v4, v5] := by cases args; simp_all
  obtain ⟨_, b0⟩ := hval 0 29 v0 rfl rfl
  obtain ⟨_, b1⟩ := hval 1 29 v1 rfl rfl
  obtain ⟨_, b2⟩ := hval 2 81 v2 rfl rfl
  obtain ⟨_, b3⟩ := hval 3 3 v3 rfl rfl
  obtain ⟨_, b4⟩ := hval 4 3 v4 rfl rfl
  obtain ⟨_, b5⟩ := hval 5 3 v5 rfl rfl
  obtain ⟨c0, rfl, k0⟩ := in_val (ks := [0, 0, 0, 0, 0, 0, 0, 0, 0, 0, 0, 0, 0, 0, 0, 0, 0, 0, 0, 0]) (by kernel_rfl) (by kernel_rfl) (by kernel_rfl) b0 h0
  have s0 := kcells_scal k0
  obtain ⟨a0_0, r0, rfl, i0_0, k0⟩ := kc0 k0
  obtain ⟨a0_1, r0, rfl, i0_1, k0⟩ := kc0 k0
  obtain ⟨a0_2, r0, rfl, i0_2, k0⟩ := kc0 k0
  obtain ⟨a0_3, r0, rfl, i0_3, k0⟩ := kc0 k0
  obtain ⟨a0_4, r0, rfl, i0_4, k0⟩ := kc0 k0
  obtain ⟨a0_5, r0, rfl, i0_5, k0⟩ := kc0 k0
  obtain ⟨a0_6, r0, rfl, i0_6, k0⟩ := kc0 k0
  obtain ⟨a0_7, r0, rfl, i0_7, k0⟩ := kc0 k0
  obtain ⟨a0_8, r0, rfl, i0_8, k0⟩ := kc0 k0
  obtain ⟨a0_9, r0, rfl, i0_9, k0⟩ := kc0 k0
  obtain ⟨a0_10, r0, rfl, i0_10, k0⟩ := kc0 k0
  obtain ⟨a0_11, r0, rfl, i0_11, k0⟩ := kc0 k0
  obtain ⟨a0_12, r0, rfl, i0_12, k0⟩ := kc0 k0
  obtain ⟨a0_13, r0, rfl, i0_13, k0⟩ := kc0 k0
  obtain ⟨a0_14, r0, rfl, i0_14, k0⟩ := kc0 k0
  obtain ⟨a0_15, r0, rfl, i0_15, k0⟩ := kc0 k0
  obtain ⟨a0_16, r0, rfl, i0_16, k0⟩ := kc0 k0
  obtain ⟨a0_17, r0, rfl, i0_17, k0⟩ := kc0 k0
  obtain ⟨a0_18, r0, rfl, i0_18, k0⟩ := kc0 k0
  obtain ⟨a0_19, r0, rfl, i0_19, k0⟩ := kc0 k0
  obtain rfl := kcn k0
  obtain ⟨c1, rfl, k1⟩ := in_val (ks := [0, 0, 0, 0, 0, 0, 0, 0, 0, 0, 0, 0, 0, 0, 0, 0, 0, 0, 0, 0]) (by kernel_rfl) (by kernel_rfl) (by kernel_rfl) b1 h1
  have s1 := kcells_scal k1
  obtain ⟨a1_0, r1, rfl, i1_0, k1⟩ := kc0 k1
  obtain ⟨a1_1, r1, rfl, i1_1, k1⟩ := kc0 k1
  obtain ⟨a1_2, r1, rfl, i1_2, k1⟩ := kc0 k1
  obtain ⟨a1_3, r1, rfl, i1_3, k1⟩ := kc0 k1
  obtain ⟨a1_4, r1, rfl, i1_4, k1⟩ := kc0 k1
  obtain ⟨a1_5, r1, rfl, i1_5, k1⟩ := kc0 k1
  obtain ⟨a1_6, r1, rfl, i1_6, k1⟩ := kc0 k1
  obtain ⟨a1_7, r1, rfl, i1_7, k1⟩ := kc0 k1
  obtain ⟨a1_8, r1, rfl, i1_8, k1⟩ := kc0 k1
  obtain ⟨a1_9, r1, rfl, i1_9, k1⟩ := kc0 k1
  obtain ⟨a1_10, r1, rfl, i1_10, k1⟩ := kc0 k1
  obtain ⟨a1_11, r1, rfl, i1_11, k1⟩ := kc0 k1
  obtain ⟨a1_12, r1, rfl, i1_12, k1⟩ := kc0 k1
  obtain ⟨a1_13, r1, rfl, i1_13, k1⟩ := kc0 k1
  obtain ⟨a1_14, r1, rfl, i1_14, k1⟩ := kc0 k1
  obtain ⟨a1_15, r1, rfl, i1_15, k1⟩ := kc0 k1
  obtain ⟨a1_16, r1, rfl, i1_16, k1⟩ := kc0 k1
  obtain ⟨a1_17, r1, rfl, i1_17, k1⟩ := kc0 k1
  obtain ⟨a1_18, r1, rfl, i1_18, k1⟩ := kc0 k1
  obtain ⟨a1_19, r1, rfl, i1_19, k1⟩ := kc0 k1
  obtain rfl := kcn k1
  obtain ⟨c2, rfl, k2⟩ := in_val (ks := [0, 0]) (by kernel_rfl) (by kernel_rfl) (by kernel_rfl) b2 h2
  have s2 := kcells_scal k2
  obtain ⟨a2_0, r2, rfl, i2_0, k2⟩ := kc0 k2
  obtain ⟨a2_1, r2, rfl, i2_1, k2⟩ := kc0 k2
  obtain rfl := kcn k2
  obtain ⟨a3, rfl, rfl, rfl, i3⟩ := open_int Try.underlying3 b3 h3
  obtain ⟨a4, rfl, rfl, rfl, i4⟩ := open_int Try.underlying3 b4 h4
  obtain ⟨a5, rfl, rfl, rfl, i5⟩ := open_int Try.underlying3 b5 h5
  refine law_call allaw_sound (args := [.agg [.int .i64 a0_0, .int .i64 a0_1, .int .i64 a0_2, .int .i64 a0_3, .int .i64 a0_4, .int .i64 a0_5, .int .i64 a0_6, .int .i64 a0_7, .int .i64 a0_8, .int .i64 a0_9, .int .i64 a0_10, .int .i64 a0_11, .int .i64 a0_12, .int .i64 a0_13, .int .i64 a0_14, .int .i64 a0_15, .int .i64 a0_16, .int .i64 a0_17, .int .i64 a0_18, .int .i64 a0_19], .agg [.int .i64 a1_0, .int .i64 a1_1, .int .i64 a1_2, .int .i64 a1_3, .int .i64 a1_4, .int .i64 a1_5, .int .i64 a1_6, .int .i64 a1_7, .int .i64 a1_8, .int .i64 a1_9, .int .i64 a1_10, .int .i64 a1_11, .int .i64 a1_12, .int .i64 a1_13, .int .i64 a1_14, .int .i64 a1_15, .int .i64 a1_16, .int .i64 a1_17, .int .i64 a1_18, .int .i64 a1_19], .agg [.int .i64 a2_0, .int .i64 a2_1], .c (.int .i64 a3), .c (.int .i64 a4), .c (.int .i64 a5)]) (H := []) [] ?_ rfl .nil (.cons (vrel_scal s0) (.cons (vrel_scal s1) (.cons (vrel_scal s2) (.cons (vrel_int _) (.cons (vrel_int _) (.cons (vrel_int _) .nil))))))
  have q3 := wf_i64 i3
  exact ⟨And.intro q3.1 q3.2, rfl⟩

set_option maxRecDepth 100000 in
theorem lifted (os : Os) (started : os.Started) (H : Type) (enc : TypeId × Value → H) :
    ReturnsInHanded {} Try.checked os 9 .any (Rows.alertFirstSpec.pre6 enc Try.prog Try.f9 [] false) (Rows.alertFirstSpec.post enc Try.prog Try.f9 false true false false) :=
  Lift.law (C := Try.checked) (tb := 4) (by kernel_rfl) started (by kernel_rfl) Try.func9
    (ChangeSpec.witness6 (enc := enc) (C := Try.checked) false ⟨#[], #[.agg #[.int .i64 0, .int .i64 0, .int .i64 0, .int .i64 0, .int .i64 0, .int .i64 0, .int .i64 0, .int .i64 0, .int .i64 0, .int .i64 0, .int .i64 0, .int .i64 0, .int .i64 0, .int .i64 0, .int .i64 0, .int .i64 0, .int .i64 0, .int .i64 0, .int .i64 0, .int .i64 0], .agg #[.int .i64 0, .int .i64 0, .int .i64 0, .int .i64 0, .int .i64 0, .int .i64 0, .int .i64 0, .int .i64 0, .int .i64 0, .int .i64 0, .int .i64 0, .int .i64 0, .int .i64 0, .int .i64 0, .int .i64 0, .int .i64 0, .int .i64 0, .int .i64 0, .int .i64 0, .int .i64 0], .agg #[.int .i64 0, .int .i64 0], .int .i64 0, .int .i64 0, .int .i64 0], []⟩ 8 (by kernel_rfl) (by kernel_rfl) (by kernel_rfl) (by kernel_rfl))
    rfl rfl Try.underlying4 (by kernel_rfl) (by kernel_rfl)
    (by intro ds hds; rw [Try.params9] at hds; simp only [List.length_cons, List.length_nil] at hds; match ds, hds with | [_, _, _, _, _, _], _ => rfl)
    (fun W args ds p h => walkA W args ds p h)

theorem over : Rows.alertFirstRow.holds Try.pinned (OpenSpec.ofChange Rows.alertFirstSpec) :=
  OpenClaim.holds_of_wide 9 Try.f9 rfl rfl rfl rfl rfl rfl rfl ⟨rfl, rfl, rfl, rfl, rfl⟩ rfl rfl rfl rfl rfl (by kernel_rfl) Try.func9 (by kernel_rfl)
    (of_decide_eq_true (by kernel_rfl)) (by unfold Func.isWrapper; first | (rw [if_pos (by decide +kernel)]; kernel_rfl) | (rw [if_neg (by decide +kernel)]; exact ⟨rfl, rfl⟩))
    (fun os started H enc _ => lifted os started H enc)

/-- THE STATEMENT -/
theorem proved : Rows.AlertFirstSaid := over
#print axioms proved

end Go.Proofs.Ythljcjighomgkaa.AlertFirst
