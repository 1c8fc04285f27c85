/- skywaylaw4.ApproachOrders returns true at every input. No condition. -/
import Derived.Test.YtffcfbamcaoidaaRf
import Derived.Test.YtffcfbamcaoidaaSym23
import Derived.Test.YtffcfbamcaoidaaLift
namespace Go.Proofs.Ytffcfbamcaoidaa.ApproachOrders
open Go.ChangeShapes Go.WideShapes Go.ChangeAt Go.RowKit Sym
open Go.ChangeMaps (open_string)

set_option maxRecDepth 100000 in
set_option maxHeartbeats 4000000 in
theorem walkA {H : Type} {enc : TypeId × Value → H} (W : World) (args : Array Value) (ds : List (DataW H)) (p : List MemPlace) (h : Lift.Args enc Try.prog Try.f9 W args ds p) :
    Calls Try.prog 9 args W fun e W' => e = .returned (.bool true) ∧ Below W.heap.size W W' := by
  obtain ⟨hval, hA, hlt, hreach, hfree⟩ := h
  rw [Try.params9] at hA hval
  obtain ⟨v0, vs0, d0, ds0, p0, q0, hargs, rfl, rfl, h0, r0⟩ := trodAll_cons hA
  obtain ⟨v1, vs1, d1, ds1, p1, q1, rfl, rfl, rfl, h1, r1⟩ := trodAll_cons r0
  obtain ⟨rfl, rfl, rfl⟩ := trodAll_nil r1
  obtain rfl : args = #[v0, v1] := by cases args; simp_all
  obtain ⟨_, b0⟩ := hval 0 42 v0 rfl rfl
  obtain ⟨_, b1⟩ := hval 1 43 v1 rfl rfl
  obtain ⟨A0, c0, l0, rfl, u0, m0, R0⟩ := in_slice (cod := cod) 7 51 (ks := [2, 0, 0, 0]) (Try.underlying42) (by kernel_rfl) (by kernel_rfl) (by kernel_rfl) (by kernel_rfl) (by
    intro cells h
    obtain ⟨_, _, rfl, _, h⟩ := kc2 h
    obtain ⟨_, _, rfl, _, h⟩ := kc0 h
    obtain ⟨_, _, rfl, _, h⟩ := kc0 h
    obtain ⟨_, _, rfl, _, h⟩ := kc0 h
    obtain rfl := kcn h
    exact rfl) b0 h0
  obtain ⟨c1, rfl, k1⟩ := in_val (ks := [0, 0, 0, 0, 0, 0, 0, 0, 0, 0, 0, 0, 0, 0, 0, 0]) (by kernel_rfl) (by kernel_rfl) (by kernel_rfl) b1 h1
  have s1 := kcells_scal k1
  obtain ⟨a1_0, r1, rfl, i1_0, k1⟩ := kc0 k1
  obtain ⟨a1_1, r1, rfl, i1_1, k1⟩ := kc0 k1
  obtain ⟨a1_2, r1, rfl, i1_2, k1⟩ := kc0 k1
  obtain ⟨a1_3, r1, rfl, i1_3, k1⟩ := kc0 k1
  obtain ⟨a1_4, r1, rfl, i1_4, k1⟩ := kc0 k1
  obtain ⟨a1_5, r1, rfl, i1_5, k1⟩ := kc0 k1
  obtain ⟨a1_6, r1, rfl, i1_6, k1⟩ := kc0 k1
  obtain ⟨a1_7, r1, rfl, i1_7, k1⟩ := kc0 k1
  obtain ⟨a1_8, r1, rfl, i1_8, k1⟩ := kc0 k1
  obtain ⟨a1_9, r1, rfl, i1_9, k1⟩ := kc0 k1
  obtain ⟨a1_10, r1, rfl, i1_10, k1⟩ := kc0 k1
  obtain ⟨a1_11, r1, rfl, i1_11, k1⟩ := kc0 k1
  obtain ⟨a1_12, r1, rfl, i1_12, k1⟩ := kc0 k1
  obtain ⟨a1_13, r1, rfl, i1_13, k1⟩ := kc0 k1
  obtain ⟨a1_14, r1, rfl, i1_14, k1⟩ := kc0 k1
  obtain ⟨a1_15, r1, rfl, i1_15, k1⟩ := kc0 k1
  obtain rfl := kcn k1
  refine law_call orders_sound (args := [.c (.slc 0 0 l0.length false), .agg [.int .i64 a1_0, .int .i64 a1_1, .int .i64 a1_2, .int .i64 a1_3, .int .i64 a1_4, .int .i64 a1_5, .int .i64 a1_6, .int .i64 a1_7, .int .i64 a1_8, .int .i64 a1_9, .int .i64 a1_10, .int .i64 a1_11, .int .i64 a1_12, .int .i64 a1_13, .int .i64 a1_14, .int .i64 a1_15]]) (H := [.inp 7 l0]) [hvOf (cod 7).size A0] ?_ rfl (.cons (inp_rel R0 rfl) .nil) (.cons (slc_rel rfl (by simp) R0 u0 m0) (.cons (vrel_scal s1) .nil))
  exact ⟨⟨rfl, rfl⟩, rfl⟩

set_option maxRecDepth 100000 in
theorem lifted (os : Os) (started : os.Started) (H : Type) (enc : TypeId × Value → H) :
    ReturnsInHanded {} Try.checked os 9 .any (Rows.approachOrdersSpec.pre6 enc Try.prog Try.f9 [] false) (Rows.approachOrdersSpec.post enc Try.prog Try.f9 false true false false) :=
  Lift.law (C := Try.checked) (tb := 4) (by kernel_rfl) started (by kernel_rfl) Try.func9
    (ChangeSpec.witness6 (enc := enc) (C := Try.checked) false ⟨#[], #[.slice none 0 0, .agg #[.int .i64 0, .int .i64 0, .int .i64 0, .int .i64 0, .int .i64 0, .int .i64 0, .int .i64 0, .int .i64 0, .int .i64 0, .int .i64 0, .int .i64 0, .int .i64 0, .int .i64 0, .int .i64 0, .int .i64 0, .int .i64 0]], []⟩ 8 (by kernel_rfl) (by kernel_rfl) (by kernel_rfl) (by kernel_rfl))
    rfl rfl Try.underlying4 (by kernel_rfl) (by kernel_rfl)
    (by intro ds hds; rw [Try.params9] at hds; simp only [List.length_cons, List.length_nil] at hds; match ds, hds with | [_, _], _ => rfl)
    (fun W args ds p h => walkA W args ds p h)

theorem over : Rows.approachOrdersRow.holds Try.pinned (OpenSpec.ofChange Rows.approachOrdersSpec) :=
  OpenClaim.holds_of_wide 9 Try.f9 rfl rfl rfl rfl rfl rfl rfl ⟨rfl, rfl, rfl, rfl, rfl⟩ rfl rfl rfl rfl rfl (by kernel_rfl) Try.func9 (by kernel_rfl)
    (of_decide_eq_true (by kernel_rfl)) (by unfold Func.isWrapper; first | (rw [if_pos (by decide +kernel)]; kernel_rfl) | (rw [if_neg (by decide +kernel)]; exact ⟨rfl, rfl⟩))
    (fun os started H enc _ => lifted os started H enc)

/-- THE STATEMENT -/
theorem proved : Rows.ApproachOrdersSaid := over
#print axioms proved

end Go.Proofs.Ytffcfbamcaoidaa.ApproachOrders
