/- skywaylaw4.ClockCuts returns true at every input. No condition. -/
import Derived.Test.YtgmnfdmlidhbcaaKs
import Derived.Test.YtgmnfdmlidhbcaaBd46
namespace Go.Proofs.Ytgmnfdmlidhbcaa.ClockCuts
open Go.ChangeShapes Go.WideShapes Go.ChangeAt Go.RowKit Sym
open Go.ChangeMaps (open_string)

set_option maxRecDepth 100000 in
set_option maxHeartbeats 4000000 in
theorem walkA {H : Type} {enc : TypeId × Value → H} (W : World) (args : Array Value) (ds : List (DataW H)) (p : List MemPlace) (h : Lift.Args enc Try.prog Try.f4 W args ds p) :
    Calls Try.prog 4 args W fun e W' => e = .returned (.bool true) ∧ Below W.heap.size W W' := by
  obtain ⟨hval, hA, hlt, hreach, hfree⟩ := h
  rw [Try.params4] at hA hval
  obtain ⟨v0, vs0, d0, ds0, p0, q0, hargs, rfl, rfl, h0, r0⟩ := trodAll_cons hA
  obtain ⟨v1, vs1, d1, ds1, p1, q1, rfl, rfl, rfl, h1, r1⟩ := trodAll_cons r0
  obtain ⟨rfl, rfl, rfl⟩ := trodAll_nil r1
  obtain rfl : args = #[v0, v1] := by cases args; simp_all
  obtain ⟨_, b0⟩ := hval 0 22 v0 rfl rfl
  obtain ⟨_, b1⟩ := hval 1 24 v1 rfl rfl
  obtain ⟨A0, c0, l0, rfl, u0, m0, R0⟩ := in_slice (cod := cod) 1 37 (ks := [0, 0, 0]) (Try.underlying22) (by kernel_rfl) (by kernel_rfl) (by kernel_rfl) (by kernel_rfl) (by
    intro cells h
    obtain ⟨_, _, rfl, _, h⟩ := kc0 h
    obtain ⟨_, _, rfl, _, h⟩ := kc0 h
    obtain ⟨_, _, rfl, _, h⟩ := kc0 h
    obtain rfl := kcn h
    exact rfl) b0 h0
  obtain ⟨A1, c1, l1, rfl, u1, m1, R1⟩ := in_slice (cod := cod) 0 3 (ks := [0]) (Try.underlying24) (by kernel_rfl) (by kernel_rfl) (by kernel_rfl) (by kernel_rfl) (by
    intro cells h
    obtain ⟨_, _, rfl, _, h⟩ := kc0 h
    obtain rfl := kcn h
    exact rfl) b1 h1
  refine law_call ccu_sound (args := [.c (.slc 0 0 l0.length false), .c (.slc 1 0 l1.length false)]) (H := [.inp 1 l0, .inp 0 l1]) [hvOf (cod 1).size A0, hvOf (cod 0).size A1] ?_ rfl (.cons (inp_rel R0 rfl) (.cons (inp_rel R1 rfl) .nil)) (.cons (slc_rel rfl (by simp) R0 u0 m0) (.cons (slc_rel rfl (by simp) R1 u1 m1) .nil))
  exact ⟨⟨⟨rfl, rfl⟩, ⟨rfl, rfl⟩⟩, rfl⟩

set_option maxRecDepth 100000 in
theorem lifted (os : Os) (started : os.Started) (H : Type) (enc : TypeId × Value → H) :
    ReturnsInHanded {} Try.checked os 4 .any (Rows.clockCutsSpec.pre6 enc Try.prog Try.f4 [] false) (Rows.clockCutsSpec.post enc Try.prog Try.f4 false true false false) :=
  Lift.law (C := Try.checked) (tb := 4) (by kernel_rfl) started (by kernel_rfl) Try.func4
    (ChangeSpec.witness6 (enc := enc) (C := Try.checked) false ⟨#[], #[.slice none 0 0, .slice none 0 0], []⟩ 8 (by kernel_rfl) (by kernel_rfl) (by kernel_rfl) (by kernel_rfl))
    rfl rfl Try.underlying4 (by kernel_rfl) (by kernel_rfl)
    (by intro ds hds; rw [Try.params4] at hds; simp only [List.length_cons, List.length_nil] at hds; match ds, hds with | [_, _], _ => rfl)
    (fun W args ds p h => walkA W args ds p h)

theorem over : Rows.clockCutsRow.holds Try.pinned (OpenSpec.ofChange Rows.clockCutsSpec) :=
  OpenClaim.holds_of_wide 4 Try.f4 rfl rfl rfl rfl rfl rfl rfl ⟨rfl, rfl, rfl, rfl, rfl⟩ rfl rfl rfl rfl rfl (by kernel_rfl) Try.func4 (by kernel_rfl)
    (of_decide_eq_true (by kernel_rfl)) (by unfold Func.isWrapper; first | (rw [if_pos (by decide +kernel)]; kernel_rfl) | (rw [if_neg (by decide +kernel)]; exact ⟨rfl, rfl⟩))
    (fun os started H enc _ => lifted os started H enc)

/-- THE STATEMENT -/
theorem proved : Rows.ClockCutsSaid := over
#print axioms proved

end Go.Proofs.Ytgmnfdmlidhbcaa.ClockCuts
