/- skywaylaw2.FilterUpdates returns true at every input. No condition. -/
import Derived.Test.YthljcjighomgkaaFu
import Derived.Test.YthljcjighomgkaaSym21
import Derived.Test.YthljcjighomgkaaLift
namespace Go.Proofs.Ythljcjighomgkaa.FilterUpdates
open Go.ChangeShapes Go.WideShapes Go.ChangeAt Go.RowKit Sym

set_option maxRecDepth 100000 in
set_option maxHeartbeats 4000000 in
theorem walkA {H : Type} {enc : TypeId × Value → H} (W : World) (args : Array Value) (ds : List (DataW H)) (p : List MemPlace) (h : Lift.Args enc Try.prog Try.f11 W args ds p) :
    Calls Try.prog 11 args W fun e W' => e = .returned (.bool true) ∧ Below W.heap.size W W' := by
  obtain ⟨hval, hA, hlt, hreach, hfree⟩ := h
  rw [Try.params11] at hA hval
  obtain ⟨v0, vs0, d0, ds0, p0, q0, hargs, rfl, rfl, h0, r0⟩ := trodAll_cons hA
  obtain ⟨v1, vs1, d1, ds1, p1, q1, rfl, rfl, rfl, h1, r1⟩ := trodAll_cons r0
  obtain ⟨v2, vs2, d2, ds2, p2, q2, rfl, rfl, rfl, h2, r2⟩ := trodAll_cons r1
  obtain ⟨v3, vs3, d3, ds3, p3, q3, rfl, rfl, rfl, h3, r3⟩ := trodAll_cons r2
  obtain ⟨v4, vs4, d4, ds4, p4, q4, rfl, rfl, rfl, h4, r4⟩ := trodAll_cons r3
  obtain ⟨rfl, rfl, rfl⟩ := trodAll_nil r4
  obtain rfl : args = #[v0, v1, v2, v3, v4] := by cases args; simp_all
  obtain ⟨_, b0⟩ := hval 0 29 v0 rfl rfl
  obtain ⟨_, b1⟩ := hval 1 27 v1 rfl rfl
  obtain ⟨_, b2⟩ := hval 2 3 v2 rfl rfl
  obtain ⟨_, b3⟩ := hval 3 3 v3 rfl rfl
  obtain ⟨_, b4⟩ := hval 4 3 v4 rfl rfl
  obtain ⟨c0, rfl, k0⟩ := open_val (ls := List.replicate 20 3) 6 (by kernel_rfl) (by kernel_rfl) b0 h0
  obtain ⟨l0, n0, e0, -⟩ := ints_any Try.underlying3 _ k0
  obtain ⟨c1, rfl, k1⟩ := open_val (ls := List.replicate 6 3) 6 (by kernel_rfl) (by kernel_rfl) b1 h1
  obtain ⟨l1, n1, e1, -⟩ := ints_any Try.underlying3 _ k1
  obtain ⟨a2, rfl, rfl, rfl, _⟩ := open_int Try.underlying3 b2 h2
  obtain ⟨a3, rfl, rfl, rfl, _⟩ := open_int Try.underlying3 b3 h3
  obtain ⟨a4, rfl, rfl, rfl, _⟩ := open_int Try.underlying3 b4 h4
  refine law_call fulaw_sound (args := [.agg (ints l0), .agg (ints l1), .c (.int .i64 a2), .c (.int .i64 a3), .c (.int .i64 a4)]) (H := []) [] ?_ rfl .nil (.cons (vrel_ints _ e0) (.cons (vrel_ints _ e1) (.cons (vrel_int _) (.cons (vrel_int _) (.cons (vrel_int _) .nil)))))
  match l0, n0, l1, n1 with
  | [_, _, _, _, _, _, _, _, _, _, _, _, _, _, _, _, _, _, _, _], _, [_, _, _, _, _, _], _ => exact rfl

set_option maxRecDepth 100000 in
theorem lifted (os : Os) (started : os.Started) (H : Type) (enc : TypeId × Value → H) :
    ReturnsInHanded {} Try.checked os 11 .any (Rows.filterUpdatesSpec.pre6 enc Try.prog Try.f11 [] false) (Rows.filterUpdatesSpec.post enc Try.prog Try.f11 false true false false) :=
  Lift.law (C := Try.checked) (tb := 4) (by kernel_rfl) started (by kernel_rfl) Try.func11
    (ChangeSpec.witness6 (enc := enc) (C := Try.checked) false ⟨#[], #[.agg #[.int .i64 0, .int .i64 0, .int .i64 0, .int .i64 0, .int .i64 0, .int .i64 0, .int .i64 0, .int .i64 0, .int .i64 0, .int .i64 0, .int .i64 0, .int .i64 0, .int .i64 0, .int .i64 0, .int .i64 0, .int .i64 0, .int .i64 0, .int .i64 0, .int .i64 0, .int .i64 0], .agg #[.int .i64 0, .int .i64 0, .int .i64 0, .int .i64 0, .int .i64 0, .int .i64 0], .int .i64 0, .int .i64 0, .int .i64 0], []⟩ 8 (by kernel_rfl) (by kernel_rfl) (by kernel_rfl) (by kernel_rfl))
    rfl rfl Try.underlying4 (by kernel_rfl) (by kernel_rfl)
    (by intro ds hds; rw [Try.params11] at hds; simp only [List.length_cons, List.length_nil] at hds; match ds, hds with | [_, _, _, _, _], _ => rfl)
    (fun W args ds p h => walkA W args ds p h)

theorem over : Rows.filterUpdatesRow.holds Try.pinned (OpenSpec.ofChange Rows.filterUpdatesSpec) :=
  OpenClaim.holds_of_wide 11 Try.f11 rfl rfl rfl rfl rfl rfl rfl ⟨rfl, rfl, rfl, rfl, rfl⟩ rfl rfl rfl rfl rfl (by kernel_rfl) Try.func11 (by kernel_rfl)
    (of_decide_eq_true (by kernel_rfl)) (by unfold Func.isWrapper; first | (rw [if_pos (by decide +kernel)]; kernel_rfl) | (rw [if_neg (by decide +kernel)]; exact ⟨rfl, rfl⟩))
    (fun os started H enc _ => lifted os started H enc)

/-- THE STATEMENT -/
theorem proved : Rows.FilterUpdatesSaid := over
#print axioms proved

end Go.Proofs.Ythljcjighomgkaa.FilterUpdates
