/- skywaylaw4.ScreenPictures returns true at every input. No condition. -/
import Derived.Test.YtbdhppceihcbnaaPg
import Derived.Test.YtbdhppceihcbnaaBd44
import Derived.Test.YtbdhppceihcbnaaBd45
namespace Go.Proofs.Ytbdhppceihcbnaa.ScreenPictures
open Go.ChangeShapes Go.WideShapes Go.ChangeAt Go.RowKit Sym
open Go.ChangeMaps (open_string)

set_option maxRecDepth 100000 in
set_option maxHeartbeats 4000000 in
theorem walkA {H : Type} {enc : TypeId × Value → H} (W : World) (args : Array Value) (ds : List (DataW H)) (p : List MemPlace) (h : Lift.Args enc Try.prog Try.f3 W args ds p) :
    Calls Try.prog 3 args W fun e W' => e = .returned (.bool true) ∧ Below W.heap.size W W' := by
  obtain ⟨hval, hA, hlt, hreach, hfree⟩ := h
  rw [Try.params3] at hA hval
  obtain ⟨v0, vs0, d0, ds0, p0, q0, hargs, rfl, rfl, h0, r0⟩ := trodAll_cons hA
  obtain ⟨v1, vs1, d1, ds1, p1, q1, rfl, rfl, rfl, h1, r1⟩ := trodAll_cons r0
  obtain ⟨v2, vs2, d2, ds2, p2, q2, rfl, rfl, rfl, h2, r2⟩ := trodAll_cons r1
  obtain ⟨rfl, rfl, rfl⟩ := trodAll_nil r2
  obtain rfl : args = #[v0, v1, v2] := by cases args; simp_all
  obtain ⟨_, b0⟩ := hval 0 25 v0 rfl rfl
  obtain ⟨_, b1⟩ := hval 1 26 v1 rfl rfl
  obtain ⟨_, b2⟩ := hval 2 27 v2 rfl rfl
  obtain ⟨c0, rfl, k0⟩ := in_val (ks := [0, 0, 0, 0, 0]) (by kernel_rfl) (by kernel_rfl) (by kernel_rfl) b0 h0
  have s0 := kcells_scal k0
  obtain ⟨a0_0, r0, rfl, i0_0, k0⟩ := kc0 k0
  obtain ⟨a0_1, r0, rfl, i0_1, k0⟩ := kc0 k0
  obtain ⟨a0_2, r0, rfl, i0_2, k0⟩ := kc0 k0
  obtain ⟨a0_3, r0, rfl, i0_3, k0⟩ := kc0 k0
  obtain ⟨a0_4, r0, rfl, i0_4, k0⟩ := kc0 k0
  obtain rfl := kcn k0
  obtain ⟨A1, c1, L1, rfl, u1, m1, R1, Q1⟩ := in_nest (cod := cod) 1 34 23 (ks := [0, 0]) (Try.underlying26) (by kernel_rfl) (by kernel_rfl) (Try.underlying34) (by kernel_rfl) (by kernel_rfl) (by kernel_rfl) (by kernel_rfl) (by
    intro cells h
    obtain ⟨_, _, rfl, _, h⟩ := kc0 h
    obtain ⟨_, _, rfl, _, h⟩ := kc0 h
    obtain rfl := kcn h
    exact rfl) b1 h1
  obtain ⟨A2, c2, l2, rfl, u2, m2, R2⟩ := in_slice (cod := cod) 1 23 (ks := [0, 0]) (Try.underlying27) (by kernel_rfl) (by kernel_rfl) (by kernel_rfl) (by kernel_rfl) (by
    intro cells h
    obtain ⟨_, _, rfl, _, h⟩ := kc0 h
    obtain ⟨_, _, rfl, _, h⟩ := kc0 h
    obtain rfl := kcn h
    exact rfl) b2 h2
  refine law_callR sp_sound (args := [.agg [.int .i64 a0_0, .int .i64 a0_1, .int .i64 a0_2, .int .i64 a0_3, .int .i64 a0_4], .c (.slc 0 0 L1.length false), .c (.slc 1 0 l2.length false)]) (H := [.nin 1 (L1.map (·.2)) none, .inp 1 l2]) [hvN A1 (L1.map (·.1)), hvOf (cod 1).size A2] ?_ rfl (.cons (nin_rel R1 Q1) (.cons (inp_rel R2 rfl) .nil)) (.cons (vrel_scal s0) (.cons (slc_relN rfl (by simp) R1 u1 m1) (.cons (slc_rel rfl (by simp) R2 u2 m2) .nil)))
  exact ⟨⟨⟨rfl, by simp⟩, rfl, rfl⟩, rfl⟩

set_option maxRecDepth 100000 in
theorem lifted (os : Os) (started : os.Started) (H : Type) (enc : TypeId × Value → H) :
    ReturnsInHanded {} Try.checked os 3 .any (Rows.screenPicturesSpec.pre6 enc Try.prog Try.f3 [] false) (Rows.screenPicturesSpec.post enc Try.prog Try.f3 false true false false) :=
  Lift.law (C := Try.checked) (tb := 4) (by kernel_rfl) started (by kernel_rfl) Try.func3
    (ChangeSpec.witness6 (enc := enc) (C := Try.checked) false ⟨#[], #[.agg #[.int .i64 0, .int .i64 0, .int .i64 0, .int .i64 0, .int .i64 0], .slice none 0 0, .slice none 0 0], []⟩ 8 (by kernel_rfl) (by kernel_rfl) (by kernel_rfl) (by kernel_rfl))
    rfl rfl Try.underlying4 (by kernel_rfl) (by kernel_rfl)
    (by intro ds hds; rw [Try.params3] at hds; simp only [List.length_cons, List.length_nil] at hds; match ds, hds with | [_, _, _], _ => rfl)
    (fun W args ds p h => walkA W args ds p h)

theorem over : Rows.screenPicturesRow.holds Try.pinned (OpenSpec.ofChange Rows.screenPicturesSpec) :=
  OpenClaim.holds_of_wide 3 Try.f3 rfl rfl rfl rfl rfl rfl rfl ⟨rfl, rfl, rfl, rfl, rfl⟩ rfl rfl rfl rfl rfl (by kernel_rfl) Try.func3 (by kernel_rfl)
    (of_decide_eq_true (by kernel_rfl)) (by unfold Func.isWrapper; first | (rw [if_pos (by decide +kernel)]; kernel_rfl) | (rw [if_neg (by decide +kernel)]; exact ⟨rfl, rfl⟩))
    (fun os started H enc _ => lifted os started H enc)

/-- THE STATEMENT -/
theorem proved : Rows.ScreenPicturesSaid := over
#print axioms proved

end Go.Proofs.Ytbdhppceihcbnaa.ScreenPictures
