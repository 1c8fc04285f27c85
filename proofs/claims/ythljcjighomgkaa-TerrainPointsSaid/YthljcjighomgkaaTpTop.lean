/- skywaylaw2.TerrainPoints returns true at every input. No condition. -/
import Derived.Test.YthljcjighomgkaaFx
import Derived.Test.YthljcjighomgkaaSym25
import Derived.Test.YthljcjighomgkaaLift
namespace Go.Proofs.Ythljcjighomgkaa.TerrainPoints
open Go.ChangeShapes Go.WideShapes Go.ChangeAt Go.RowKit Sym
open Go.ChangeMaps (open_string)

set_option maxRecDepth 100000 in
set_option maxHeartbeats 4000000 in
theorem walkA {H : Type} {enc : TypeId × Value → H} (W : World) (args : Array Value) (ds : List (DataW H)) (p : List MemPlace) (h : Lift.Args enc Try.prog Try.f7 W args ds p) :
    Calls Try.prog 7 args W fun e W' => e = .returned (.bool true) ∧ Below W.heap.size W W' := by
  obtain ⟨hval, hA, hlt, hreach, hfree⟩ := h
  rw [Try.params7] at hA hval
  obtain ⟨v0, vs0, d0, ds0, p0, q0, hargs, rfl, rfl, h0, r0⟩ := trodAll_cons hA
  obtain ⟨v1, vs1, d1, ds1, p1, q1, rfl, rfl, rfl, h1, r1⟩ := trodAll_cons r0
  obtain ⟨v2, vs2, d2, ds2, p2, q2, rfl, rfl, rfl, h2, r2⟩ := trodAll_cons r1
  obtain ⟨rfl, rfl, rfl⟩ := trodAll_nil r2
  obtain rfl : args = #[v0, v1, v2] := by cases args; simp_all
  obtain ⟨_, b0⟩ := hval 0 70 v0 rfl rfl
  obtain ⟨_, b1⟩ := hval 1 23 v1 rfl rfl
  obtain ⟨_, b2⟩ := hval 2 3 v2 rfl rfl
  obtain ⟨c0, A0, n0, l0, rfl, k0, g1, g2, g3⟩ := in_val_slice (cod := cod) 0 (ts := 68) (ks := [0]) (ks0 := [0, 0, 0, 0, 0]) 3 (by kernel_rfl) (by kernel_rfl) (by kernel_rfl) (by kernel_rfl) (by kernel_rfl) (by kernel_rfl) (by kernel_rfl) (by kernel_rfl) (fun cells hc => by
    cases hc with
    | cons h t =>
      cases t
      obtain ⟨n, rfl, _⟩ := h
      rfl) b0 h0
  have s0 := kcells_scal k0
  obtain ⟨a0_0, r0, rfl, i0_0, k0⟩ := kc0 k0
  obtain ⟨a0_1, r0, rfl, i0_1, k0⟩ := kc0 k0
  obtain ⟨a0_2, r0, rfl, i0_2, k0⟩ := kc0 k0
  obtain ⟨a0_3, r0, rfl, i0_3, k0⟩ := kc0 k0
  obtain ⟨a0_4, r0, rfl, i0_4, k0⟩ := kc0 k0
  obtain rfl := kcn k0
  obtain ⟨c1, rfl, k1⟩ := in_val (ks := [0, 0]) (by kernel_rfl) (by kernel_rfl) (by kernel_rfl) b1 h1
  have s1 := kcells_scal k1
  obtain ⟨a1_0, r1, rfl, i1_0, k1⟩ := kc0 k1
  obtain ⟨a1_1, r1, rfl, i1_1, k1⟩ := kc0 k1
  obtain rfl := kcn k1
  obtain ⟨a2, rfl, rfl, rfl, i2⟩ := open_int Try.underlying3 b2 h2
  refine law_call tlaw_sound (args := [.agg ([.int .i64 a0_0, .int .i64 a0_1, .int .i64 a0_2, .int .i64 a0_3, .int .i64 a0_4] ++ [.slc 0 0 (List.length l0) false]), .agg [.int .i64 a1_0, .int .i64 a1_1], .c (.int .i64 a2)]) (H := [.inp 0 l0]) [hvOf (cod 0).size A0] ?_ rfl (.cons (inp_rel g3 rfl) .nil) (.cons (vrel_ints_slice s0 (slc_rel rfl (Nat.zero_lt_succ _) g3 g1 g2)) (.cons (vrel_scal s1) (.cons (vrel_int _) .nil)))
  exact ⟨⟨rfl, rfl⟩, rfl⟩

set_option maxRecDepth 100000 in
theorem lifted (os : Os) (started : os.Started) (H : Type) (enc : TypeId × Value → H) :
    ReturnsInHanded {} Try.checked os 7 .any (Rows.terrainPointsSpec.pre6 enc Try.prog Try.f7 [] false) (Rows.terrainPointsSpec.post enc Try.prog Try.f7 false true false false) :=
  Lift.law (C := Try.checked) (tb := 4) (by kernel_rfl) started (by kernel_rfl) Try.func7
    (ChangeSpec.witness6 (enc := enc) (C := Try.checked) false ⟨#[], #[.agg #[.int .i64 0, .int .i64 0, .int .i64 0, .int .i64 0, .int .i64 0, .slice none 0 0], .agg #[.int .i64 0, .int .i64 0], .int .i64 0], []⟩ 8 (by kernel_rfl) (by kernel_rfl) (by kernel_rfl) (by kernel_rfl))
    rfl rfl Try.underlying4 (by kernel_rfl) (by kernel_rfl)
    (by intro ds hds; rw [Try.params7] at hds; simp only [List.length_cons, List.length_nil] at hds; match ds, hds with | [_, _, _], _ => rfl)
    (fun W args ds p h => walkA W args ds p h)

theorem over : Rows.terrainPointsRow.holds Try.pinned (OpenSpec.ofChange Rows.terrainPointsSpec) :=
  OpenClaim.holds_of_wide 7 Try.f7 rfl rfl rfl rfl rfl rfl rfl ⟨rfl, rfl, rfl, rfl, rfl⟩ rfl rfl rfl rfl rfl (by kernel_rfl) Try.func7 (by kernel_rfl)
    (of_decide_eq_true (by kernel_rfl)) (by unfold Func.isWrapper; first | (rw [if_pos (by decide +kernel)]; kernel_rfl) | (rw [if_neg (by decide +kernel)]; exact ⟨rfl, rfl⟩))
    (fun os started H enc _ => lifted os started H enc)

/-- THE STATEMENT -/
theorem proved : Rows.TerrainPointsSaid := over
#print axioms proved

end Go.Proofs.Ythljcjighomgkaa.TerrainPoints
