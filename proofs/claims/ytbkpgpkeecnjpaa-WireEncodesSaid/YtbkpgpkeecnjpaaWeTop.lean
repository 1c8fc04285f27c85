/- skywaylaw2.WireEncodes returns true at every input. No condition. -/
import Derived.Test.YtbkpgpkeecnjpaaBd36
import Derived.Test.YtbkpgpkeecnjpaaBd31
namespace Go.Proofs.Ytbkpgpkeecnjpaa.WireEncodes
open Go.ChangeShapes Go.WideShapes Go.ChangeAt Go.RowKit Sym
open Go.ChangeMaps (open_string)

set_option maxRecDepth 100000 in
set_option maxHeartbeats 4000000 in
theorem walkA {H : Type} {enc : TypeId × Value → H} (W : World) (args : Array Value) (ds : List (DataW H)) (p : List MemPlace) (h : Lift.Args enc Try.prog Try.f3 W args ds p) :
    Calls Try.prog 3 args W fun e W' => e = .returned (.bool true) ∧ Below W.heap.size W W' := by
  obtain ⟨hval, hA, hlt, hreach, hfree⟩ := h
  rw [Try.params3] at hA hval
  obtain ⟨v0, vs0, d0, ds0, p0, q0, hargs, rfl, rfl, h0, r0⟩ := trodAll_cons hA
  obtain ⟨v1, vs1, d1, ds1, p1, q1, rfl, rfl, rfl, h1, r1⟩ := trodAll_cons r0
  obtain ⟨rfl, rfl, rfl⟩ := trodAll_nil r1
  obtain rfl : args = #[v0, v1] := by cases args; simp_all
  obtain ⟨_, b0⟩ := hval 0 24 v0 rfl rfl
  obtain ⟨_, b1⟩ := hval 1 9 v1 rfl rfl
  obtain ⟨c0, A0, n0, l0, rfl, k0, g1, g2, g3⟩ := in_val_slice (cod := cod) 2 (ts := 22) (ks := [0, 0, 0, 0, 0, 0]) (ks0 := [0, 0]) 53 (by kernel_rfl) (by kernel_rfl) (by kernel_rfl) (by kernel_rfl) (by kernel_rfl) (by kernel_rfl) (by kernel_rfl) (by kernel_rfl) (by
    intro cells h
    obtain ⟨_, _, rfl, _, h⟩ := kc0 h
    obtain ⟨_, _, rfl, _, h⟩ := kc0 h
    obtain ⟨_, _, rfl, _, h⟩ := kc0 h
    obtain ⟨_, _, rfl, _, h⟩ := kc0 h
    obtain ⟨_, _, rfl, _, h⟩ := kc0 h
    obtain ⟨_, _, rfl, _, h⟩ := kc0 h
    obtain rfl := kcn h
    exact rfl) b0 h0
  have s0 := kcells_scal k0
  obtain ⟨a0_0, r0, rfl, i0_0, k0⟩ := kc0 k0
  obtain ⟨a0_1, r0, rfl, i0_1, k0⟩ := kc0 k0
  obtain rfl := kcn k0
  obtain ⟨a1, rfl, rfl, rfl, i1⟩ := open_string Try.underlying9 b1 h1
  refine law_call welaw_sound (args := [.agg ([.int .i64 a0_0, .int .i64 a0_1] ++ [.slc 0 0 (List.length l0) false]), .c (.str a1.data.toList)]) (H := [.inp 2 l0]) [hvOf (cod 2).size A0] ?_ rfl (.cons (inp_rel g3 rfl) .nil) (.cons (vrel_ints_slice s0 (slc_rel rfl (Nat.zero_lt_succ _) g3 g1 g2)) (.cons (vrel_str _) .nil))
  exact ⟨⟨rfl, rfl⟩, rfl⟩

set_option maxRecDepth 100000 in
theorem lifted (os : Os) (started : os.Started) (H : Type) (enc : TypeId × Value → H) :
    ReturnsInHanded {} Try.checked os 3 .any (Rows.wireEncodesSpec.pre6 enc Try.prog Try.f3 [] false) (Rows.wireEncodesSpec.post enc Try.prog Try.f3 false true false false) :=
  Lift.law (C := Try.checked) (tb := 4) (by kernel_rfl) started (by kernel_rfl) Try.func3
    (ChangeSpec.witness6 (enc := enc) (C := Try.checked) false ⟨#[], #[.agg #[.int .i64 0, .int .i64 0, .slice none 0 0], .string ByteArray.empty], []⟩ 8 (by kernel_rfl) (by kernel_rfl) (by kernel_rfl) (by kernel_rfl))
    rfl rfl Try.underlying4 (by kernel_rfl) (by kernel_rfl)
    (by intro ds hds; rw [Try.params3] at hds; simp only [List.length_cons, List.length_nil] at hds; match ds, hds with | [_, _], _ => rfl)
    (fun W args ds p h => walkA W args ds p h)

theorem over : Rows.wireEncodesRow.holds Try.pinned (OpenSpec.ofChange Rows.wireEncodesSpec) :=
  OpenClaim.holds_of_wide 3 Try.f3 rfl rfl rfl rfl rfl rfl rfl ⟨rfl, rfl, rfl, rfl, rfl⟩ rfl rfl rfl rfl rfl (by kernel_rfl) Try.func3 (by kernel_rfl)
    (of_decide_eq_true (by kernel_rfl)) (by unfold Func.isWrapper; first | (rw [if_pos (by decide +kernel)]; kernel_rfl) | (rw [if_neg (by decide +kernel)]; exact ⟨rfl, rfl⟩))
    (fun os started H enc _ => lifted os started H enc)

/-- THE STATEMENT -/
theorem proved : Rows.WireEncodesSaid := over
#print axioms proved

end Go.Proofs.Ytbkpgpkeecnjpaa.WireEncodes
