/- skywaylaw2.MosaicMerges returns true at every input. No condition. -/
import Derived.Test.YtbkpgpkeecnjpaaJe
import Derived.Test.YtbkpgpkeecnjpaaSym31
import Derived.Test.YtbkpgpkeecnjpaaLift
namespace Go.Proofs.Ytbkpgpkeecnjpaa.MosaicMerges
open Go.ChangeShapes Go.WideShapes Go.ChangeAt Go.RowKit Sym
open Go.ChangeMaps (open_string)

set_option maxRecDepth 100000 in
set_option maxHeartbeats 4000000 in
theorem walkA {H : Type} {enc : TypeId × Value → H} (W : World) (args : Array Value) (ds : List (DataW H)) (p : List MemPlace) (h : Lift.Args enc Try.prog Try.f8 W args ds p) :
    Calls Try.prog 8 args W fun e W' => e = .returned (.bool true) ∧ Below W.heap.size W W' := by
  obtain ⟨hval, hA, hlt, hreach, hfree⟩ := h
  rw [Try.params8] at hA hval
  obtain ⟨v0, vs0, d0, ds0, p0, q0, hargs, rfl, rfl, h0, r0⟩ := trodAll_cons hA
  obtain ⟨rfl, rfl, rfl⟩ := trodAll_nil r0
  obtain rfl : args = #[v0] := by cases args; simp_all
  obtain ⟨_, b0⟩ := hval 0 72 v0 rfl rfl
  obtain ⟨A0, c0, L0, rfl, u0, m0, R0, Q0⟩ := in_nest (cod := cod) 2 22 53 (ks := [0, 0, 0, 0, 0, 0]) (Try.underlying72) (by kernel_rfl) (by kernel_rfl) (Try.underlying22) (by kernel_rfl) (by kernel_rfl) (by kernel_rfl) (by kernel_rfl) (by
    intro cells h
    obtain ⟨_, _, rfl, _, h⟩ := kc0 h
    obtain ⟨_, _, rfl, _, h⟩ := kc0 h
    obtain ⟨_, _, rfl, _, h⟩ := kc0 h
    obtain ⟨_, _, rfl, _, h⟩ := kc0 h
    obtain ⟨_, _, rfl, _, h⟩ := kc0 h
    obtain ⟨_, _, rfl, _, h⟩ := kc0 h
    obtain rfl := kcn h
    exact rfl) b0 h0
  refine law_callR mmlaw_sound (args := [.c (.slc 0 0 L0.length false)]) (H := [.nin 2 (L0.map (·.2)) none]) [hvN A0 (L0.map (·.1))] ?_ rfl (.cons (nin_rel R0 Q0) .nil) (.cons (slc_relN rfl (by simp) R0 u0 m0) .nil)
  exact ⟨⟨rfl, by simp⟩, rfl⟩

set_option maxRecDepth 100000 in
theorem lifted (os : Os) (started : os.Started) (H : Type) (enc : TypeId × Value → H) :
    ReturnsInHanded {} Try.checked os 8 .any (Rows.mosaicMergesSpec.pre6 enc Try.prog Try.f8 [] false) (Rows.mosaicMergesSpec.post enc Try.prog Try.f8 false true false false) :=
  Lift.law (C := Try.checked) (tb := 4) (by kernel_rfl) started (by kernel_rfl) Try.func8
    (ChangeSpec.witness6 (enc := enc) (C := Try.checked) false ⟨#[], #[.slice none 0 0], []⟩ 8 (by kernel_rfl) (by kernel_rfl) (by kernel_rfl) (by kernel_rfl))
    rfl rfl Try.underlying4 (by kernel_rfl) (by kernel_rfl)
    (by intro ds hds; rw [Try.params8] at hds; simp only [List.length_cons, List.length_nil] at hds; match ds, hds with | [_], _ => rfl)
    (fun W args ds p h => walkA W args ds p h)

theorem over : Rows.mosaicMergesRow.holds Try.pinned (OpenSpec.ofChange Rows.mosaicMergesSpec) :=
  OpenClaim.holds_of_wide 8 Try.f8 rfl rfl rfl rfl rfl rfl rfl ⟨rfl, rfl, rfl, rfl, rfl⟩ rfl rfl rfl rfl rfl (by kernel_rfl) Try.func8 (by kernel_rfl)
    (of_decide_eq_true (by kernel_rfl)) (by unfold Func.isWrapper; first | (rw [if_pos (by decide +kernel)]; kernel_rfl) | (rw [if_neg (by decide +kernel)]; exact ⟨rfl, rfl⟩))
    (fun os started H enc _ => lifted os started H enc)

/-- THE STATEMENT -/
theorem proved : Rows.MosaicMergesSaid := over
#print axioms proved

end Go.Proofs.Ytbkpgpkeecnjpaa.MosaicMerges
