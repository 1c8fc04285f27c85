/- skywaylaw2.WireDecodes returns true at every input. No condition. -/
import Derived.Test.YtbkpgpkeecnjpaaBd44
import Derived.Test.YtbkpgpkeecnjpaaBd31
namespace Go.Proofs.Ytbkpgpkeecnjpaa.WireDecodes
open Go.ChangeShapes Go.WideShapes Go.ChangeAt Go.RowKit Sym
open Go.ChangeMaps (open_string)

set_option maxRecDepth 100000 in
set_option maxHeartbeats 4000000 in
theorem walkA {H : Type} {enc : TypeId × Value → H} (W : World) (args : Array Value) (ds : List (DataW H)) (p : List MemPlace) (h : Lift.Args enc Try.prog Try.f5 W args ds p) :
    Calls Try.prog 5 args W fun e W' => e = .returned (.bool true) ∧ Below W.heap.size W W' := by
  obtain ⟨hval, hA, hlt, hreach, hfree⟩ := h
  rw [Try.params5] at hA hval
  obtain ⟨v0, vs0, d0, ds0, p0, q0, hargs, rfl, rfl, h0, r0⟩ := trodAll_cons hA
  obtain ⟨rfl, rfl, rfl⟩ := trodAll_nil r0
  obtain rfl : args = #[v0] := by cases args; simp_all
  obtain ⟨_, b0⟩ := hval 0 9 v0 rfl rfl
  obtain ⟨a0, rfl, rfl, rfl, i0⟩ := open_string Try.underlying9 b0 h0
  refine law_call wdlaw_sound (args := [.c (.str a0.data.toList)]) (H := []) [] ?_ rfl .nil (.cons (vrel_str _) .nil)
  exact rfl

set_option maxRecDepth 100000 in
theorem lifted (os : Os) (started : os.Started) (H : Type) (enc : TypeId × Value → H) :
    ReturnsInHanded {} Try.checked os 5 .any (Rows.wireDecodesSpec.pre6 enc Try.prog Try.f5 [] false) (Rows.wireDecodesSpec.post enc Try.prog Try.f5 false true false false) :=
  Lift.law (C := Try.checked) (tb := 4) (by kernel_rfl) started (by kernel_rfl) Try.func5
    (ChangeSpec.witness6 (enc := enc) (C := Try.checked) false ⟨#[], #[.string ByteArray.empty], []⟩ 8 (by kernel_rfl) (by kernel_rfl) (by kernel_rfl) (by kernel_rfl))
    rfl rfl Try.underlying4 (by kernel_rfl) (by kernel_rfl)
    (by intro ds hds; rw [Try.params5] at hds; simp only [List.length_cons, List.length_nil] at hds; match ds, hds with | [_], _ => rfl)
    (fun W args ds p h => walkA W args ds p h)

theorem over : Rows.wireDecodesRow.holds Try.pinned (OpenSpec.ofChange Rows.wireDecodesSpec) :=
  OpenClaim.holds_of_wide 5 Try.f5 rfl rfl rfl rfl rfl rfl rfl ⟨rfl, rfl, rfl, rfl, rfl⟩ rfl rfl rfl rfl rfl (by kernel_rfl) Try.func5 (by kernel_rfl)
    (of_decide_eq_true (by kernel_rfl)) (by unfold Func.isWrapper; first | (rw [if_pos (by decide +kernel)]; kernel_rfl) | (rw [if_neg (by decide +kernel)]; exact ⟨rfl, rfl⟩))
    (fun os started H enc _ => lifted os started H enc)

/-- THE STATEMENT -/
theorem proved : Rows.WireDecodesSaid := over
#print axioms proved

end Go.Proofs.Ytbkpgpkeecnjpaa.WireDecodes
