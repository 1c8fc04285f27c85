/- skywaylaw2.FuseSpots returns true at every input. No condition. -/
import Derived.Test.YtbkpgpkeecnjpaaIa
import Derived.Test.YtbkpgpkeecnjpaaSym23
import Derived.Test.YtbkpgpkeecnjpaaLift
namespace Go.Proofs.Ytbkpgpkeecnjpaa.FuseSpots
open Go.ChangeShapes Go.WideShapes Go.ChangeAt Go.RowKit Sym
open Go.ChangeMaps (open_string)

set_option maxRecDepth 100000 in
set_option maxHeartbeats 4000000 in
theorem walkA {H : Type} {enc : TypeId × Value → H} (W : World) (args : Array Value) (ds : List (DataW H)) (p : List MemPlace) (h : Lift.Args enc Try.prog Try.f9 W args ds p) :
    Calls Try.prog 9 args W fun e W' => e = .returned (.bool true) ∧ Below W.heap.size W W' := by
  obtain ⟨hval, hA, hlt, hreach, hfree⟩ := h
  rw [Try.params9] at hA hval
  obtain ⟨v0, vs0, d0, ds0, p0, q0, hargs, rfl, rfl, h0, r0⟩ := trodAll_cons hA
  obtain ⟨v1, vs1, d1, ds1, p1, q1, rfl, rfl, rfl, h1, r1⟩ := trodAll_cons r0
  obtain ⟨rfl, rfl, rfl⟩ := trodAll_nil r1
  obtain rfl : args = #[v0, v1] := by cases args; simp_all
  obtain ⟨_, b0⟩ := hval 0 77 v0 rfl rfl
  obtain ⟨_, b1⟩ := hval 1 3 v1 rfl rfl
  obtain ⟨A0, c0, l0, rfl, u0, m0, R0⟩ := in_slice (cod := cod) 2 81 (ks := [0, 0, 0, 0, 0, 0]) (Try.underlying77) (by kernel_rfl) (by kernel_rfl) (by kernel_rfl) (by kernel_rfl) (by
    intro cells h
    obtain ⟨_, _, rfl, _, h⟩ := kc0 h
    obtain ⟨_, _, rfl, _, h⟩ := kc0 h
    obtain ⟨_, _, rfl, _, h⟩ := kc0 h
    obtain ⟨_, _, rfl, _, h⟩ := kc0 h
    obtain ⟨_, _, rfl, _, h⟩ := kc0 h
    obtain ⟨_, _, rfl, _, h⟩ := kc0 h
    obtain rfl := kcn h
    exact rfl) b0 h0
  obtain ⟨a1, rfl, rfl, rfl, i1⟩ := open_int Try.underlying3 b1 h1
  have q1 := wf_i64 i1
  refine law_call fslaw_sound (args := [.c (.slc 0 0 l0.length false), .c (.int .i64 a1)]) (H := [.inp 2 l0]) [hvOf (cod 2).size A0] ?_ rfl (.cons (inp_rel R0 rfl) .nil) (.cons (slc_rel rfl (by simp) R0 u0 m0) (.cons (vrel_int _) .nil))
  exact ⟨⟨⟨rfl, rfl⟩, q1⟩, rfl⟩

set_option maxRecDepth 100000 in
theorem lifted (os : Os) (started : os.Started) (H : Type) (enc : TypeId × Value → H) :
    ReturnsInHanded {} Try.checked os 9 .any (Rows.fuseSpotsSpec.pre6 enc Try.prog Try.f9 [] false) (Rows.fuseSpotsSpec.post enc Try.prog Try.f9 false true false false) :=
  Lift.law (C := Try.checked) (tb := 4) (by kernel_rfl) started (by kernel_rfl) Try.func9
    (ChangeSpec.witness6 (enc := enc) (C := Try.checked) false ⟨#[], #[.slice none 0 0, .int .i64 0], []⟩ 8 (by kernel_rfl) (by kernel_rfl) (by kernel_rfl) (by kernel_rfl))
    rfl rfl Try.underlying4 (by kernel_rfl) (by kernel_rfl)
    (by intro ds hds; rw [Try.params9] at hds; simp only [List.length_cons, List.length_nil] at hds; match ds, hds with | [_, _], _ => rfl)
    (fun W args ds p h => walkA W args ds p h)

theorem over : Rows.fuseSpotsRow.holds Try.pinned (OpenSpec.ofChange Rows.fuseSpotsSpec) :=
  OpenClaim.holds_of_wide 9 Try.f9 rfl rfl rfl rfl rfl rfl rfl ⟨rfl, rfl, rfl, rfl, rfl⟩ rfl rfl rfl rfl rfl (by kernel_rfl) Try.func9 (by kernel_rfl)
    (of_decide_eq_true (by kernel_rfl)) (by unfold Func.isWrapper; first | (rw [if_pos (by decide +kernel)]; kernel_rfl) | (rw [if_neg (by decide +kernel)]; exact ⟨rfl, rfl⟩))
    (fun os started H enc _ => lifted os started H enc)

/-- THE STATEMENT -/
theorem proved : Rows.FuseSpotsSaid := over
#print axioms proved

end Go.Proofs.Ytbkpgpkeecnjpaa.FuseSpots
