/- skywaylaw4.StripSays returns true at every input. No condition. -/
import Derived.Test.YtkfkfihjdohjfaaTh
import Derived.Test.YtkfkfihjdohjfaaBd43
namespace Go.Proofs.Ytkfkfihjdohjfaa.StripSays
open Go.ChangeShapes Go.WideShapes Go.ChangeAt Go.RowKit Sym
open Go.ChangeMaps (open_string)

set_option maxRecDepth 100000 in
set_option maxHeartbeats 4000000 in
theorem walkA {H : Type} {enc : TypeId × Value → H} (W : World) (args : Array Value) (ds : List (DataW H)) (p : List MemPlace) (h : Lift.Args enc Try.prog Try.f3 W args ds p) :
    Calls Try.prog 3 args W fun e W' => e = .returned (.bool true) ∧ Below W.heap.size W W' := by
  obtain ⟨hval, hA, hlt, hreach, hfree⟩ := h
  rw [Try.params3] at hA hval
  obtain ⟨v0, vs0, d0, ds0, p0, q0, hargs, rfl, rfl, h0, r0⟩ := trodAll_cons hA
  obtain ⟨v1, vs1, d1, ds1, p1, q1, rfl, rfl, rfl, h1, r1⟩ := trodAll_cons r0
  obtain ⟨v2, vs2, d2, ds2, p2, q2, rfl, rfl, rfl, h2, r2⟩ := trodAll_cons r1
  obtain ⟨rfl, rfl, rfl⟩ := trodAll_nil r2
  obtain rfl : args = #[v0, v1, v2] := by cases args; simp_all
  obtain ⟨_, b0⟩ := hval 0 22 v0 rfl rfl
  obtain ⟨_, b1⟩ := hval 1 3 v1 rfl rfl
  obtain ⟨_, b2⟩ := hval 2 9 v2 rfl rfl
  obtain ⟨A0, c0, l0, rfl, u0, m0, R0, Q0⟩ := in_sliceQ (cod := cod) 6 31 (fun x : Int × List UInt8 × List UInt8 × Int × Int × Int => Sym.i64ok x.1) (ks := [0, 2, 2, 0, 0, 0]) (Try.underlying22) (by kernel_rfl) (by kernel_rfl) (by kernel_rfl) (by kernel_rfl) (by
    intro cells h
    obtain ⟨_, _, rfl, q1, h⟩ := kc0 h
    obtain ⟨_, _, rfl, _, h⟩ := kc2 h
    obtain ⟨_, _, rfl, _, h⟩ := kc2 h
    obtain ⟨_, _, rfl, _, h⟩ := kc0 h
    obtain ⟨_, _, rfl, _, h⟩ := kc0 h
    obtain ⟨_, _, rfl, _, h⟩ := kc0 h
    obtain rfl := kcn h
    exact ⟨rfl, q1⟩) b0 h0
  obtain ⟨a1, rfl, rfl, rfl, i1⟩ := open_int Try.underlying3 b1 h1
  obtain ⟨a2, rfl, rfl, rfl, i2⟩ := open_string Try.underlying9 b2 h2
  refine law_call slaw_sound (args := [.c (.slc 0 0 l0.length false), .c (.int .i64 a1), .c (.str a2.data.toList)]) (H := [.inp 6 l0]) [hvOf (cod 6).size A0] ?_ rfl (.cons (inp_rel R0 rfl) .nil) (.cons (slc_rel rfl (by simp) R0 u0 m0) (.cons rfl (.cons (vrel_str _) .nil)))
  exact ⟨⟨⟨rfl, rfl⟩, Q0⟩, rfl⟩

set_option maxRecDepth 100000 in
theorem lifted (os : Os) (started : os.Started) (H : Type) (enc : TypeId × Value → H) :
    ReturnsInHanded {} Try.checked os 3 .any (Rows.stripSaysSpec.pre6 enc Try.prog Try.f3 [] false) (Rows.stripSaysSpec.post enc Try.prog Try.f3 false true false false) :=
  Lift.law (C := Try.checked) (tb := 4) (by kernel_rfl) started (by kernel_rfl) Try.func3
    (ChangeSpec.witness6 (enc := enc) (C := Try.checked) false ⟨#[], #[.slice none 0 0, .int .i64 0, .string ByteArray.empty], []⟩ 8 (by kernel_rfl) (by kernel_rfl) (by kernel_rfl) (by kernel_rfl))
    rfl rfl Try.underlying4 (by kernel_rfl) (by kernel_rfl)
    (by intro ds hds; rw [Try.params3] at hds; simp only [List.length_cons, List.length_nil] at hds; match ds, hds with | [_, _, _], _ => rfl)
    (fun W args ds p h => walkA W args ds p h)

theorem over : Rows.stripSaysRow.holds Try.pinned (OpenSpec.ofChange Rows.stripSaysSpec) :=
  OpenClaim.holds_of_wide 3 Try.f3 rfl rfl rfl rfl rfl rfl rfl ⟨rfl, rfl, rfl, rfl, rfl⟩ rfl rfl rfl rfl rfl (by kernel_rfl) Try.func3 (by kernel_rfl)
    (of_decide_eq_true (by kernel_rfl)) (by unfold Func.isWrapper; first | (rw [if_pos (by decide +kernel)]; kernel_rfl) | (rw [if_neg (by decide +kernel)]; exact ⟨rfl, rfl⟩))
    (fun os started H enc _ => lifted os started H enc)

/-- THE STATEMENT -/
theorem proved : Rows.StripSaysSaid := over
#print axioms proved

end Go.Proofs.Ytkfkfihjdohjfaa.StripSays
