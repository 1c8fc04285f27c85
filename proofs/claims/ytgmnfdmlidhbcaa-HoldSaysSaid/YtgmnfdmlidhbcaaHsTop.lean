/- skywaylaw4.HoldSays returns true at every input. No condition. -/
import Derived.Test.YtgmnfdmlidhbcaaHf
import Derived.Test.YtgmnfdmlidhbcaaBd40
namespace Go.Proofs.Ytgmnfdmlidhbcaa.HoldSays
open Go.ChangeShapes Go.WideShapes Go.ChangeAt Go.RowKit Sym

set_option maxRecDepth 100000 in
set_option maxHeartbeats 4000000 in
theorem walkA {H : Type} {enc : TypeId × Value → H} (W : World) (args : Array Value) (ds : List (DataW H)) (p : List MemPlace) (h : Lift.Args enc Try.prog Try.f5 W args ds p) :
    Calls Try.prog 5 args W fun e W' => e = .returned (.bool true) ∧ Below W.heap.size W W' := by
  obtain ⟨hval, hA, hlt, hreach, hfree⟩ := h
  rw [Try.params5] at hA hval
  obtain ⟨v0, vs0, d0, ds0, p0, q0, hargs, rfl, rfl, h0, r0⟩ := trodAll_cons hA
  obtain ⟨v1, vs1, d1, ds1, p1, q1, rfl, rfl, rfl, h1, r1⟩ := trodAll_cons r0
  obtain ⟨rfl, rfl, rfl⟩ := trodAll_nil r1
  obtain rfl : args = #[v0, v1] := by cases args; simp_all
  obtain ⟨_, b0⟩ := hval 0 46 v0 rfl rfl
  obtain ⟨_, b1⟩ := hval 1 47 v1 rfl rfl
  obtain ⟨c0, rfl, k0⟩ := in_val (ks := [0, 0, 0]) (by kernel_rfl) (by kernel_rfl) (by kernel_rfl) b0 h0
  have s0 := kcells_scal k0
  obtain ⟨a0_0, r0, rfl, i0_0, k0⟩ := kc0 k0
  obtain ⟨a0_1, r0, rfl, i0_1, k0⟩ := kc0 k0
  obtain ⟨a0_2, r0, rfl, i0_2, k0⟩ := kc0 k0
  obtain rfl := kcn k0
  obtain ⟨A0, c0, l0, rfl, u0, m0, R0, Q0⟩ := in_sliceQ (cod := cod) 5 62 (fun x : Int × List UInt8 × Int => Sym.i64ok x.1 ∧ Sym.i64ok x.2.2) (ks := [0, 2, 0]) (Try.underlying47) (by kernel_rfl) (by kernel_rfl) (by kernel_rfl) (by kernel_rfl) (by
    intro cells h
    obtain ⟨_, _, rfl, q1, h⟩ := kc0 h
    obtain ⟨_, _, rfl, _, h⟩ := kc2 h
    obtain ⟨_, _, rfl, q2, h⟩ := kc0 h
    obtain rfl := kcn h
    exact ⟨rfl, q1, q2⟩) b1 h1
  refine law_call hlaw_sound (args := [.agg [.int .i64 a0_0, .int .i64 a0_1, .int .i64 a0_2], .c (.slc 0 0 l0.length false)]) (H := [.inp 5 l0]) [hvOf (cod 5).size A0] ?_ rfl (.cons (inp_rel R0 rfl) .nil) (.cons (vrel_scal s0) (.cons (slc_rel rfl (by simp) R0 u0 m0) .nil))
  exact ⟨⟨⟨rfl, rfl⟩, Q0⟩, rfl⟩

set_option maxRecDepth 100000 in
theorem lifted (os : Os) (started : os.Started) (H : Type) (enc : TypeId × Value → H) :
    ReturnsInHanded {} Try.checked os 5 .any (Rows.holdSaysSpec.pre6 enc Try.prog Try.f5 [] false) (Rows.holdSaysSpec.post enc Try.prog Try.f5 false true false false) :=
  Lift.law (C := Try.checked) (tb := 4) (by kernel_rfl) started (by kernel_rfl) Try.func5
    (ChangeSpec.witness6 (enc := enc) (C := Try.checked) false ⟨#[], #[.agg #[.int .i64 0, .int .i64 0, .int .i64 0], .slice none 0 0], []⟩ 8 (by kernel_rfl) (by kernel_rfl) (by kernel_rfl) (by kernel_rfl))
    rfl rfl Try.underlying4 (by kernel_rfl) (by kernel_rfl)
    (by intro ds hds; rw [Try.params5] at hds; simp only [List.length_cons, List.length_nil] at hds; match ds, hds with | [_, _], _ => rfl)
    (fun W args ds p h => walkA W args ds p h)

theorem over : Rows.holdSaysRow.holds Try.pinned (OpenSpec.ofChange Rows.holdSaysSpec) :=
  OpenClaim.holds_of_wide 5 Try.f5 rfl rfl rfl rfl rfl rfl rfl ⟨rfl, rfl, rfl, rfl, rfl⟩ rfl rfl rfl rfl rfl (by kernel_rfl) Try.func5 (by kernel_rfl)
    (of_decide_eq_true (by kernel_rfl)) (by unfold Func.isWrapper; first | (rw [if_pos (by decide +kernel)]; kernel_rfl) | (rw [if_neg (by decide +kernel)]; exact ⟨rfl, rfl⟩))
    (fun os started H enc _ => lifted os started H enc)

/-- THE STATEMENT -/
theorem proved : Rows.HoldSaysSaid := over
#print axioms proved

end Go.Proofs.Ytgmnfdmlidhbcaa.HoldSays
