/- skywaytop.TopTakeover returns true at every input: the tied card, over the row that lists the library's tables. No condition beside those tables. -/
import Derived.Test.YtiolfkmkbccndaaGreatDoorYh
import Derived.Test.YtiolfkmkbccndaaGreatDoorBd52
import Derived.Test.YtiolfkmkbccndaaGreatDoorCards
import Derived.Test.YtiolfkmkbccndaaGreatDoorTie
import Derived.SevenTiedAt
import Derived.JoinedOf
import Derived.LaidLaws
namespace Go.Proofs.YtiolfkmkbccndaaGreatDoor.TopTakeover
open Go.ChangeShapes Go.WideShapes Go.ChangeAt Go.RowKit Sym
open Go.ChangeMaps (open_string)

/-- A variable of the library that holds an error. -/
theorem err_of_head {W : World} {name nm : String} {d : DataW Unit} {rest : List (String × DataW Unit)} {g : Nat} {t : TypeId} {ms : Array (String × TypeId)} (hg : Tryz.prog.globalNamed name = some g) (hty : (Tryz.prog.globals[g]?).map (·.type) = some t) (ht : Tryz.prog.underlying t = some (.interface ms))
    (h : laidMet Tryz.prog ((name, .iface nm d) :: rest) W) : ∃ cs, W.var? Tryz.prog name = some cs ∧ isErr cs := by
  obtain ⟨ps, ⟨g', t', cs, fuel, p, q, hg', ht', hvar, hd, _, _⟩, _⟩ := h
  obtain rfl := Option.some.inj (hg.symm.trans hg')
  obtain rfl := Option.some.inj (hty.symm.trans ht')
  obtain ⟨_, u, v, hcs, _⟩ := iface_of_trod ht hd
  refine ⟨cs, hvar, u, v, ?_⟩
  exact Array.ext' (by simpa using hcs)
theorem tab_laid {W : World} (h : laidMetH Tryz.prog Rows.topTakeoverRow.laid W) : TabW W (newIn W) := by
  rw [MakeChecks.laidMetH_plain _ _ _ (by kernel_rfl)] at h
  have h1 : Lib.TabIs Tryz.prog W "internal/strconv.uint64pow10" .u64 Lib.pow10Tab := Lib.tabIs_of_head (g := 1) (t := 116) (e := 104) (n := 20) (by kernel_rfl) (by kernel_rfl) Tryz.underlying116 Tryz.underlying104 (by kernel_rfl) (by kernel_rfl) (Lift.laid_tail (Lift.laid_tail h))
  have h2 : Lib.TabIs Tryz.prog W "math/bits.deBruijn64tab" .u8 (Lib.deBruijn64tab.map fun z : Nat => (z : Int)) := Lib.tabIs_of_head (g := 7) (t := 143) (e := 5) (n := 64) (by kernel_rfl) (by kernel_rfl) Tryz.underlying143 Tryz.underlying5 (by kernel_rfl) (by kernel_rfl) (Lift.laid_tail h)
  obtain ⟨cr, hr, er⟩ := err_of_head (g := 5) (t := 94) (by kernel_rfl) (by kernel_rfl) Tryz.underlying94 (Lift.laid_tail (Lift.laid_tail (Lift.laid_tail (Lift.laid_tail h))))
  obtain ⟨cy, hy, ey⟩ := err_of_head (g := 4) (t := 94) (by kernel_rfl) (by kernel_rfl) Tryz.underlying94 (Lift.laid_tail (Lift.laid_tail (Lift.laid_tail (Lift.laid_tail (Lift.laid_tail h)))))
  have key : ∀ (g : Nat) (name : String) (cs : Array Value) (Q : Array Value → Prop), Q cs → Tryz.prog.globalNamed name = some g → W.var? Tryz.prog name = some cs → (∃ cs ty tg, W.heap[g]? = some (.cells cs ty tg) ∧ Q cs) ∧ ¬ newIn W g := by
    intro g name cs Q hQ hg hv
    unfold World.var? at hv
    rw [hg] at hv
    simp only [Option.bind_some] at hv
    split at hv
    · rename_i cs' ty tg hc
      simp only [Option.some.injEq] at hv
      subst hv
      refine ⟨⟨_, ty, tg, hc, hQ⟩, fun hn => ?_⟩
      have := (Array.getElem?_eq_some_iff.1 hc).1
      unfold newIn at hn
      omega
    · cases hv
  intro p hp
  simp only [tabs, List.mem_cons, List.not_mem_nil, or_false] at hp
  rcases hp with rfl | rfl | rfl | rfl
  · exact key 1 _ _ _ rfl (by kernel_rfl) h1
  · exact key 7 _ _ _ rfl (by kernel_rfl) (by
      unfold Lib.TabIs at h2
      rw [h2, List.map_map]
      rfl)
  · exact key 4 _ _ _ ey (by kernel_rfl) hy
  · exact key 5 _ _ _ er (by kernel_rfl) hr

set_option maxRecDepth 100000 in
set_option maxHeartbeats 4000000 in
theorem walkA {H : Type} {enc : TypeId × Value → H} (W : World) (args : Array Value) (ds : List (DataW H)) (p : List MemPlace) (hL : laidMetH Tryz.prog Rows.topTakeoverRow.laid W) (h : Lift.Args enc Tryz.prog Tryz.f3 W args ds p) :
    Calls Tryz.prog 3 args W fun e W' => e = .returned (.bool true) ∧ Below W.heap.size W W' := by
  obtain ⟨hval, hA, hlt, hreach, hfree⟩ := h
  rw [Tryz.params3] at hA hval
  obtain ⟨v0, vs0, d0, ds0, p0, q0, hargs, rfl, rfl, h0, r0⟩ := trodAll_cons hA
  obtain ⟨rfl, rfl, rfl⟩ := trodAll_nil r0
  obtain rfl : args = #[v0] := by cases args; simp_all
  obtain ⟨_, b0⟩ := hval 0 22 v0 rfl rfl
  obtain ⟨A0, c0, l0, rfl, u0, m0, R0⟩ := in_slice (cod := cod) 0 3 (ks := [0]) (Tryz.underlying22) (by kernel_rfl) (by kernel_rfl) (by kernel_rfl) (by kernel_rfl) (by
    intro cells h
    obtain ⟨_, _, rfl, _, h⟩ := kc0 h
    obtain rfl := kcn h
    exact rfl) b0 h0
  refine law_call law_sound (args := [.c (.slc 0 0 l0.length false)]) (H := [.inp 0 l0]) [hvOf (cod 0).size A0] ?_ rfl (.cons (inp_rel R0 rfl) .nil) (.cons (slc_rel rfl (by simp) R0 u0 m0) .nil) (tab_laid hL)
  exact ⟨⟨rfl, rfl⟩, rfl⟩

/-- A world for the witness: what the door's run leaves, the pinned table laid. -/
noncomputable def laidW (os : Os) : World :=
  { World.doorLaid Tryz.prog 4000 os with heap := (World.doorLaid Tryz.prog 4000 os).heap.modify 2 fun
      | .cells _ t frozen => .cells ((Go.Pinned.utf8FirstZ.map fun z : Nat => Value.int .u8 z).toArray) t frozen
      | o => o }
theorem laidW_met (os : Os) (args : Array Value) : laidMetH Tryz.prog Rows.topTakeoverRow.laid ((laidW os).forCall (fun _ _ => 0) ⟨#[], args, []⟩).memory :=
  laidMetH_of_parts3 (fuel := 10) (laidMet_of_run' 10 (by kernel_rfl) (by kernel_rfl)) (by kernel_rfl) (by kernel_rfl)
set_option maxRecDepth 100000 in
theorem lifted (os : Os) (started : os.Started) (H : Type) (enc : TypeId × Value → H) :
    ReturnsInHanded {} Tryz.checked os 3 .any (fun w args => (Rows.topTakeoverSpec.pre enc Tryz.prog Tryz.f3 [] false w args ∧ laidMetH Tryz.prog Rows.topTakeoverRow.laid w) ∧ sizedMet enc Tryz.prog Tryz.f3 (OpenSpec.ofChange Rows.topTakeoverSpec) false w args) (Rows.topTakeoverSpec.post enc Tryz.prog Tryz.f3 false true false false) :=
  Lift.lawX (C := Tryz.checked) (X := fun w => laidMetH Tryz.prog Rows.topTakeoverRow.laid w) (tb := 4) (fun _ _ hh h => h.of_heap hh) (by kernel_rfl) started (by kernel_rfl) Tryz.func3
    (ChangeSpec.witness_shaped (enc := enc) (C := Tryz.checked) (os := os) (X := fun w _ => laidMetH Tryz.prog Rows.topTakeoverRow.laid w) false (laidW os) #[.slice none 0 0] 8 rfl (World.shaped_of_RefB (by kernel_rfl) (by kernel_rfl)) (by kernel_rfl) (by kernel_rfl) (by kernel_rfl) (laidW_met os _))
    rfl rfl Tryz.underlying4 (by kernel_rfl) (by kernel_rfl)
    (by intro ds hds; rw [Tryz.params3] at hds; simp only [List.length_cons, List.length_nil] at hds; match ds, hds with | [_], _ => rfl)
    (fun W args ds p hL h => walkA W args ds p hL h)
theorem over : Rows.topTakeoverRow.holds Tryz.pinned (OpenSpec.ofChange Rows.topTakeoverSpec) :=
  OpenClaim.holds_of_wide 3 Tryz.f3 rfl rfl rfl rfl rfl rfl rfl ⟨rfl, rfl, rfl, rfl, rfl⟩ rfl rfl rfl rfl rfl (by kernel_rfl) Tryz.func3 (by kernel_rfl)
    (of_decide_eq_true (by kernel_rfl)) (by unfold Func.isWrapper; first | (rw [if_pos (by decide +kernel)]; kernel_rfl) | (rw [if_neg (by decide +kernel)]; exact ⟨rfl, rfl⟩))
    (fun os started H enc _ => lifted os started H enc)
theorem plain (f : FuncId) (fn : Func) (hf : Tryz.pinned.checked.prog.funcNamed "skyway/skywaytop.TopTakeover" = some f) (hfn : Tryz.pinned.checked.prog.funcs[f]? = some fn) :
    true = Tryz.pinned.checked.prog.looks [] ∧ ∀ (j : Nat) t, fn.params[j]? = some t → Tryz.pinned.checked.prog.wantsStandIn t = false := by
  obtain rfl : f = 3 := Option.some.inj ((show Tryz.prog.funcNamed "skyway/skywaytop.TopTakeover" = some 3 by kernel_rfl).symm.trans hf) |>.symm
  obtain rfl : fn = Tryz.f3 := (Option.some.inj (Tryz.func3.symm.trans hfn)).symm
  refine ⟨by kernel_rfl, fun j t ht => ?_⟩
  rw [Tryz.params3] at ht
  have ht' : t = 22 := by simpa using Array.mem_of_getElem? ht
  subst ht'
  exact (show Tryz.prog.wantsStandIn 22 = false by kernel_rfl)
/-- THE STATEMENT -/
theorem proved : Rows.TopTakeoverCardSaid :=
  Claim7.holds_tied_plain_at .later [] _ _ _ _ over (fun _ h => by cases h) (by kernel_rfl) (fun _ h => by cases h) topTakeover_row_tie rfl ⟨rfl, rfl⟩ (by kernel_rfl) rfl plain (by kernel_rfl)
#print axioms proved
end Go.Proofs.YtiolfkmkbccndaaGreatDoor.TopTakeover
