/- skywaylaw4.LabelPlaces returns true at every input. No condition. -/
import Derived.Test.YtffcfbamcaoidaaGz
import Derived.Test.YtffcfbamcaoidaaSym28
import Derived.Test.YtffcfbamcaoidaaLift
namespace Go.Proofs.Ytffcfbamcaoidaa.LabelPlaces
open Go.ChangeShapes Go.WideShapes Go.ChangeAt Go.RowKit Sym
open Go.ChangeMaps (open_string)

set_option maxRecDepth 100000 in
set_option maxHeartbeats 4000000 in
theorem walkA {H : Type} {enc : TypeId × Value → H} (W : World) (args : Array Value) (ds : List (DataW H)) (p : List MemPlace) (h : Lift.Args enc Try.prog Try.f7 W args ds p) :
    Calls Try.prog 7 args W fun e W' => e = .returned (.bool true) ∧ Below W.heap.size W W' := by
  obtain ⟨hval, hA, hlt, hreach, hfree⟩ := h
  rw [Try.params7] at hA hval
  obtain ⟨v0, vs0, d0, ds0, p0, q0, hargs, rfl, rfl, h0, r0⟩ := trodAll_cons hA
  obtain ⟨rfl, rfl, rfl⟩ := trodAll_nil r0
  obtain rfl : args = #[v0] := by cases args; simp_all
  obtain ⟨_, b0⟩ := hval 0 58 v0 rfl rfl
  obtain ⟨A0, c0, l0, rfl, u0, m0, R0, Q0⟩ := in_sliceQ (cod := cod) 4 63 (fun x : F.Q4 => i64ok x.1 ∧ i64ok x.2.1 ∧ i64ok x.2.2.1 ∧ i64ok x.2.2.2) (ks := [0, 0, 0, 0]) (Try.underlying58) (by kernel_rfl) (by kernel_rfl) (by kernel_rfl) (by kernel_rfl) (by
    intro cells h
    obtain ⟨_, _, rfl, q1, h⟩ := kc0 h
    obtain ⟨_, _, rfl, q2, h⟩ := kc0 h
    obtain ⟨_, _, rfl, q3, h⟩ := kc0 h
    obtain ⟨_, _, rfl, q4, h⟩ := kc0 h
    obtain rfl := kcn h
    exact ⟨rfl, q1, q2, q3, q4⟩) b0 h0
  refine law_call lplaw_sound (args := [.c (.slc 0 0 l0.length false)]) (H := [.inp 4 l0]) [hvOf (cod 4).size A0] ?_ rfl (.cons (inp_rel R0 rfl) .nil) (.cons (slc_rel rfl (by simp) R0 u0 m0) .nil)
  exact ⟨⟨⟨rfl, rfl⟩, Q0⟩, rfl⟩

set_option maxRecDepth 100000 in
theorem lifted (os : Os) (started : os.Started) (H : Type) (enc : TypeId × Value → H) :
    ReturnsInHanded {} Try.checked os 7 .any (Rows.labelPlacesSpec.pre6 enc Try.prog Try.f7 [] false) (Rows.labelPlacesSpec.post enc Try.prog Try.f7 false true false false) :=
  Lift.law (C := Try.checked) (tb := 4) (by kernel_rfl) started (by kernel_rfl) Try.func7
    (ChangeSpec.witness6 (enc := enc) (C := Try.checked) false ⟨#[], #[.slice none 0 0], []⟩ 8 (by kernel_rfl) (by kernel_rfl) (by kernel_rfl) (by kernel_rfl))
    rfl rfl Try.underlying4 (by kernel_rfl) (by kernel_rfl)
    (by intro ds hds; rw [Try.params7] at hds; simp only [List.length_cons, List.length_nil] at hds; match ds, hds with | [_], _ => rfl)
    (fun W args ds p h => walkA W args ds p h)

theorem over : Rows.labelPlacesRow.holds Try.pinned (OpenSpec.ofChange Rows.labelPlacesSpec) :=
  OpenClaim.holds_of_wide 7 Try.f7 rfl rfl rfl rfl rfl rfl rfl ⟨rfl, rfl, rfl, rfl, rfl⟩ rfl rfl rfl rfl rfl (by kernel_rfl) Try.func7 (by kernel_rfl)
    (of_decide_eq_true (by kernel_rfl)) (by unfold Func.isWrapper; first | (rw [if_pos (by decide +kernel)]; kernel_rfl) | (rw [if_neg (by decide +kernel)]; exact ⟨rfl, rfl⟩))
    (fun os started H enc _ => lifted os started H enc)

/-- THE STATEMENT -/
theorem proved : Rows.LabelPlacesSaid := over
#print axioms proved

end Go.Proofs.Ytffcfbamcaoidaa.LabelPlaces
