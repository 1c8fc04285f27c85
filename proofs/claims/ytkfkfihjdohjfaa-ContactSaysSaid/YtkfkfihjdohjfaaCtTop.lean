/- skywaylaw4.ContactSays returns true at every input. No condition. -/
import Derived.Test.YtkfkfihjdohjfaaCg
import Derived.Test.YtkfkfihjdohjfaaBd48
namespace Go.Proofs.Ytkfkfihjdohjfaa.ContactSays
open Go.ChangeShapes Go.WideShapes Go.ChangeAt Go.RowKit Sym

set_option maxRecDepth 100000 in
set_option maxHeartbeats 4000000 in
theorem walkA {H : Type} {enc : TypeId × Value → H} (W : World) (args : Array Value) (ds : List (DataW H)) (p : List MemPlace) (h : Lift.Args enc Try.prog Try.f4 W args ds p) :
    Calls Try.prog 4 args W fun e W' => e = .returned (.bool true) ∧ Below W.heap.size W W' := by
  obtain ⟨hval, hA, hlt, hreach, hfree⟩ := h
  rw [Try.params4] at hA hval
  obtain ⟨v0, vs0, d0, ds0, p0, q0, hargs, rfl, rfl, h0, r0⟩ := trodAll_cons hA
  obtain ⟨v1, vs1, d1, ds1, p1, q1, rfl, rfl, rfl, h1, r1⟩ := trodAll_cons r0
  obtain ⟨v2, vs2, d2, ds2, p2, q2, rfl, rfl, rfl, h2, r2⟩ := trodAll_cons r1
  obtain ⟨v3, vs3, d3, ds3, p3, q3, rfl, rfl, rfl, h3, r3⟩ := trodAll_cons r2
  obtain ⟨rfl, rfl, rfl⟩ := trodAll_nil r3
  obtain rfl : args = #[v0, v1, v2, v3] := by cases args; simp_all
  obtain ⟨_, b0⟩ := hval 0 47 v0 rfl rfl
  obtain ⟨_, b1⟩ := hval 1 3 v1 rfl rfl
  obtain ⟨_, b2⟩ := hval 2 3 v2 rfl rfl
  obtain ⟨_, b3⟩ := hval 3 3 v3 rfl rfl
  obtain ⟨A0, c0, l0, rfl, u0, m0, R0, Q0⟩ := in_sliceQ (cod := cod) 7 53 (fun x : Int × Int × Int × List UInt8 => Sym.i64ok x.1 ∧ Sym.i64ok x.2.1) (ks := [0, 0, 0, 2]) (Try.underlying47) (by kernel_rfl) (by kernel_rfl) (by kernel_rfl) (by kernel_rfl) (by
    intro cells h
    obtain ⟨_, _, rfl, q1, h⟩ := kc0 h
    obtain ⟨_, _, rfl, q2, h⟩ := kc0 h
    obtain ⟨_, _, rfl, _, h⟩ := kc0 h
    obtain ⟨_, _, rfl, _, h⟩ := kc2 h
    obtain rfl := kcn h
    exact ⟨rfl, q1, q2⟩) b0 h0
  obtain ⟨a1, rfl, rfl, rfl, i1⟩ := open_int Try.underlying3 b1 h1
  obtain ⟨a2, rfl, rfl, rfl, i2⟩ := open_int Try.underlying3 b2 h2
  obtain ⟨a3, rfl, rfl, rfl, i3⟩ := open_int Try.underlying3 b3 h3
  refine law_call claw_sound (args := [.c (.slc 0 0 l0.length false), .c (.int .i64 a1), .c (.int .i64 a2), .c (.int .i64 a3)]) (H := [.inp 7 l0]) [hvOf (cod 7).size A0] ?_ rfl (.cons (inp_rel R0 rfl) .nil) (.cons (slc_rel rfl (by simp) R0 u0 m0) (.cons rfl (.cons rfl (.cons rfl .nil))))
  exact ⟨⟨⟨rfl, rfl⟩, Q0⟩, rfl⟩

set_option maxRecDepth 100000 in
theorem lifted (os : Os) (started : os.Started) (H : Type) (enc : TypeId × Value → H) :
    ReturnsInHanded {} Try.checked os 4 .any (Rows.contactSaysSpec.pre6 enc Try.prog Try.f4 [] false) (Rows.contactSaysSpec.post enc Try.prog Try.f4 false true false false) :=
  Lift.law (C := Try.checked) (tb := 4) (by kernel_rfl) started (by kernel_rfl) Try.func4
    (ChangeSpec.witness6 (enc := enc) (C := Try.checked) false ⟨#[], #[.slice none 0 0, .int .i64 0, .int .i64 0, .int .i64 0], []⟩ 8 (by kernel_rfl) (by kernel_rfl) (by kernel_rfl) (by kernel_rfl))
    rfl rfl Try.underlying4 (by kernel_rfl) (by kernel_rfl)
    (by intro ds hds; rw [Try.params4] at hds; simp only [List.length_cons, List.length_nil] at hds; match ds, hds with | [_, _, _, _], _ => rfl)
    (fun W args ds p h => walkA W args ds p h)

theorem over : Rows.contactSaysRow.holds Try.pinned (OpenSpec.ofChange Rows.contactSaysSpec) :=
  OpenClaim.holds_of_wide 4 Try.f4 rfl rfl rfl rfl rfl rfl rfl ⟨rfl, rfl, rfl, rfl, rfl⟩ rfl rfl rfl rfl rfl (by kernel_rfl) Try.func4 (by kernel_rfl)
    (of_decide_eq_true (by kernel_rfl)) (by unfold Func.isWrapper; first | (rw [if_pos (by decide +kernel)]; kernel_rfl) | (rw [if_neg (by decide +kernel)]; exact ⟨rfl, rfl⟩))
    (fun os started H enc _ => lifted os started H enc)

/-- THE STATEMENT -/
theorem proved : Rows.ContactSaysSaid := over
#print axioms proved

end Go.Proofs.Ytkfkfihjdohjfaa.ContactSays
