/- skywaylaw4.ConsoleSays returns true at every input. No condition. -/
import Derived.Test.YtffcfbamcaoidaaGf
import Derived.Test.YtffcfbamcaoidaaSym23
import Derived.Test.YtffcfbamcaoidaaLift
namespace Go.Proofs.Ytffcfbamcaoidaa.ConsoleSays
open Go.ChangeShapes Go.WideShapes Go.ChangeAt Go.RowKit Sym
open Go.ChangeMaps (open_string)

set_option maxRecDepth 100000 in
set_option maxHeartbeats 4000000 in
theorem walkA {H : Type} {enc : TypeId × Value → H} (W : World) (args : Array Value) (ds : List (DataW H)) (p : List MemPlace) (h : Lift.Args enc Try.prog Try.f4 W args ds p) :
    Calls Try.prog 4 args W fun e W' => e = .returned (.bool true) ∧ Below W.heap.size W W' := by
  obtain ⟨hval, hA, hlt, hreach, hfree⟩ := h
  rw [Try.params4] at hA hval
  obtain ⟨v0, vs0, d0, ds0, p0, q0, hargs, rfl, rfl, h0, r0⟩ := trodAll_cons hA
  obtain ⟨rfl, rfl, rfl⟩ := trodAll_nil r0
  obtain rfl : args = #[v0] := by cases args; simp_all
  obtain ⟨_, b0⟩ := hval 0 34 v0 rfl rfl
  obtain ⟨c0, rfl, k0⟩ := in_val (ks := [2, 2, 0, 2]) (by kernel_rfl) (by kernel_rfl) (by kernel_rfl) b0 h0
  have s0 := kcells_scal k0
  obtain ⟨a0_0, r0, rfl, i0_0, k0⟩ := kc2 k0
  obtain ⟨a0_1, r0, rfl, i0_1, k0⟩ := kc2 k0
  obtain ⟨a0_2, r0, rfl, i0_2, k0⟩ := kc0 k0
  obtain ⟨a0_3, r0, rfl, i0_3, k0⟩ := kc2 k0
  obtain rfl := kcn k0
  refine law_call cslaw_sound (args := [.agg [.str a0_0, .str a0_1, .int .i64 a0_2, .str a0_3]]) (H := []) [] ?_ rfl .nil (.cons (vrel_scal s0) .nil)
  exact rfl

set_option maxRecDepth 100000 in
theorem lifted (os : Os) (started : os.Started) (H : Type) (enc : TypeId × Value → H) :
    ReturnsInHanded {} Try.checked os 4 .any (Rows.consoleSaysSpec.pre6 enc Try.prog Try.f4 [] false) (Rows.consoleSaysSpec.post enc Try.prog Try.f4 false true false false) :=
  Lift.law (C := Try.checked) (tb := 4) (by kernel_rfl) started (by kernel_rfl) Try.func4
    (ChangeSpec.witness6 (enc := enc) (C := Try.checked) false ⟨#[], #[.agg #[.string ByteArray.empty, .string ByteArray.empty, .int .i64 0, .string ByteArray.empty]], []⟩ 8 (by kernel_rfl) (by kernel_rfl) (by kernel_rfl) (by kernel_rfl))
    rfl rfl Try.underlying4 (by kernel_rfl) (by kernel_rfl)
    (by intro ds hds; rw [Try.params4] at hds; simp only [List.length_cons, List.length_nil] at hds; match ds, hds with | [_], _ => rfl)
    (fun W args ds p h => walkA W args ds p h)

theorem over : Rows.consoleSaysRow.holds Try.pinned (OpenSpec.ofChange Rows.consoleSaysSpec) :=
  OpenClaim.holds_of_wide 4 Try.f4 rfl rfl rfl rfl rfl rfl rfl ⟨rfl, rfl, rfl, rfl, rfl⟩ rfl rfl rfl rfl rfl (by kernel_rfl) Try.func4 (by kernel_rfl)
    (of_decide_eq_true (by kernel_rfl)) (by unfold Func.isWrapper; first | (rw [if_pos (by decide +kernel)]; kernel_rfl) | (rw [if_neg (by decide +kernel)]; exact ⟨rfl, rfl⟩))
    (fun os started H enc _ => lifted os started H enc)

/-- THE STATEMENT -/
theorem proved : Rows.ConsoleSaysSaid := over
#print axioms proved

end Go.Proofs.Ytffcfbamcaoidaa.ConsoleSays
