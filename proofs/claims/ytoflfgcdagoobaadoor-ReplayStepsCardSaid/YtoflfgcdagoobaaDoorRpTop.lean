/- skywaylaw4.ReplaySteps returns true at every input: the tied card, over the row that lists the library's tables. No condition beside those tables. -/
import Derived.Test.YtoflfgcdagoobaaDoorXr
import Derived.Test.YtoflfgcdagoobaaDoorBd46
import Derived.Test.YtoflfgcdagoobaaDoorBd47
import Derived.Test.YtoflfgcdagoobaaDoorCards
import Derived.Test.YtoflfgcdagoobaaDoorTie
import Derived.SevenTiedAt
import Derived.JoinedOf
import Derived.LaidLaws
namespace Go.Proofs.YtoflfgcdagoobaaDoor.ReplaySteps
open Go.ChangeShapes Go.WideShapes Go.ChangeAt Go.RowKit Sym
open Go.ChangeMaps (open_string)

/-- A variable of the library that holds an error. -/
theorem err_of_head {W : World} {name nm : String} {d : DataW Unit} {rest : List (String × DataW Unit)} {g : Nat} {t : TypeId} {ms : Array (String × TypeId)} (hg : Tryd.prog.globalNamed name = some g) (hty : (Tryd.prog.globals[g]?).map (·.type) = some t) (ht : Tryd.prog.underlying t = some (.interface ms))
    (h : laidMet Tryd.prog ((name, .iface nm d) :: rest) W) : ∃ cs, W.var? Tryd.prog name = some cs ∧ isErr cs := by
  obtain ⟨ps, ⟨g', t', cs, fuel, p, q, hg', ht', hvar, hd, _, _⟩, _⟩ := h
  obtain rfl := Option.some.inj (hg.symm.trans hg')
  obtain rfl := Option.some.inj (hty.symm.trans ht')
  obtain ⟨_, u, v, hcs, _⟩ := iface_of_trod ht hd
  refine ⟨cs, hvar, u, v, ?_⟩
  exact Array.ext' (by simpa using hcs)
theorem tab_laid {W : World} (h : laidMetH Tryd.prog Rows.replayStepsRow.laid W) : TabW W (newIn W) := by
  rw [MakeChecks.laidMetH_plain _ _ _ (by kernel_rfl)] at h
  have h1 : Lib.TabIs Tryd.prog W "internal/strconv.uint64pow10" .u64 Lib.pow10Tab := Lib.tabIs_of_head (g := 1) (t := 102) (e := 30) (n := 20) (by kernel_rfl) (by kernel_rfl) Tryd.underlying102 Tryd.underlying30 (by kernel_rfl) (by kernel_rfl) (Lift.laid_tail (Lift.laid_tail h))
  have h2 : Lib.TabIs Tryd.prog W "math/bits.deBruijn64tab" .u8 (Lib.deBruijn64tab.map fun z : Nat => (z : Int)) := Lib.tabIs_of_head (g := 7) (t := 129) (e := 5) (n := 64) (by kernel_rfl) (by kernel_rfl) Tryd.underlying129 Tryd.underlying5 (by kernel_rfl) (by kernel_rfl) (Lift.laid_tail h)
  obtain ⟨cr, hr, er⟩ := err_of_head (g := 5) (t := 89) (by kernel_rfl) (by kernel_rfl) Tryd.underlying89 (Lift.laid_tail (Lift.laid_tail (Lift.laid_tail (Lift.laid_tail h))))
  obtain ⟨cy, hy, ey⟩ := err_of_head (g := 4) (t := 89) (by kernel_rfl) (by kernel_rfl) Tryd.underlying89 (Lift.laid_tail (Lift.laid_tail (Lift.laid_tail (Lift.laid_tail (Lift.laid_tail h)))))
  have key : ∀ (g : Nat) (name : String) (cs : Array Value) (Q : Array Value → Prop), Q cs → Tryd.prog.globalNamed name = some g → W.var? Tryd.prog name = some cs → (∃ cs ty tg, W.heap[g]? = some (.cells cs ty tg) ∧ Q cs) ∧ ¬ newIn W g := by
    intro g name cs Q hQ hg hv
    unfold World.var? at hv
    rw [hg] at hv
    simp only [Option.bind_some] at hv
    split at hv
    · rename_i cs' ty tg hc
      simp only [Option.some.injEq] at hv
      subst hv
      refine ⟨⟨_, ty, tg, hc, hQ⟩, fun hn => ?_⟩
      have := (Array.getElem?_eq_some_iff.1 hc).1
      unfold newIn at hn
      omega
    · cases hv
  intro p hp
  simp only [tabs, List.mem_cons, List.not_mem_nil, or_false] at hp
  rcases hp with rfl | rfl | rfl | rfl
  · exact key 1 _ _ _ rfl (by kernel_rfl) h1
  · exact key 7 _ _ _ rfl (by kernel_rfl) (by
      unfold Lib.TabIs at h2
      rw [h2, List.map_map]
      rfl)
  · exact key 4 _ _ _ ey (by kernel_rfl) hy
  · exact key 5 _ _ _ er (by kernel_rfl) hr

set_option maxRecDepth 100000 in
set_option maxHeartbeats 4000000 in
theorem walkA {H : Type} {enc : TypeId × Value → H} (W : World) (args : Array Value) (ds : List (DataW H)) (p : List MemPlace) (hL : laidMetH Tryd.prog Rows.replayStepsRow.laid W) (h : Lift.Args enc Tryd.prog Tryd.f5 W args ds p) :
    Calls Tryd.prog 5 args W fun e W' => e = .returned (.bool true) ∧ Below W.heap.size W W' := by
  obtain ⟨hval, hA, hlt, hreach, hfree⟩ := h
  rw [Tryd.params5] at hA hval
  obtain ⟨v0, vs0, d0, ds0, p0, q0, hargs, rfl, rfl, h0, r0⟩ := trodAll_cons hA
  obtain ⟨v1, vs1, d1, ds1, p1, q1, rfl, rfl, rfl, h1, r1⟩ := trodAll_cons r0
  obtain ⟨rfl, rfl, rfl⟩ := trodAll_nil r1
  obtain rfl : args = #[v0, v1] := by cases args; simp_all
  obtain ⟨_, b0⟩ := hval 0 22 v0 rfl rfl
  obtain ⟨_, b1⟩ := hval 1 42 v1 rfl rfl
  have hr : ∀ n, (n ∈ d0.weights Tryd.prog 22 ∨ n ∈ d1.weights Tryd.prog 42) → n ≤ reachBytes := fun n hn => by
    have := List.all_eq_true.1 hreach n (by
      rw [Tryd.params5]
      rcases hn with hn | hn
      · exact List.mem_append.2 (.inl hn)
      · exact List.mem_append.2 (.inr (List.mem_append.2 (.inl hn))))
    simpa using this
  obtain ⟨A0, c0, l0, rfl, u0, m0, R0, Q0⟩ := in_sliceS (cod := cod) (B := reachBytes) 1 50 (fun _ => True) (ks := [2, 2]) (Tryd.underlying22) (by kernel_rfl) (by kernel_rfl) (by kernel_rfl) (by kernel_rfl) (by
    intro cells h
    obtain ⟨_, _, rfl, _, h⟩ := kc2 h
    obtain ⟨_, _, rfl, _, h⟩ := kc2 h
    obtain rfl := kcn h
    exact ⟨rfl, trivial⟩) b0 h0 (fun n hn => hr n (.inl hn))
  have hsh := val_short (B := reachBytes) 9 (ls := leavesD Tryd.prog 42) (by kernel_rfl) (by kernel_rfl) b1 h1 (fun n hn => hr n (.inr hn))
  obtain ⟨c1, rfl, k0⟩ := in_val (ks := [0, 0, 2, 2]) (by kernel_rfl) (by kernel_rfl) (by kernel_rfl) b1 h1
  have s0 := kcells_scal k0
  obtain ⟨a0_0, r0, rfl, i0_0, k0⟩ := kc0 k0
  obtain ⟨a0_1, r0, rfl, i0_1, k0⟩ := kc0 k0
  obtain ⟨a0_2, r0, rfl, i0_2, k0⟩ := kc2 k0
  obtain ⟨a0_3, r0, rfl, i0_3, k0⟩ := kc2 k0
  obtain rfl := kcn k0
  have hm : reachBytes ≤ 1000000000000000 := by decide
  have g2 := hsh _ rfl (.string ⟨a0_2.toArray⟩) (by simp [Cell.val]) _ rfl
  have g3 := hsh _ rfl (.string ⟨a0_3.toArray⟩) (by simp [Cell.val]) _ rfl
  have e2 : (⟨a0_2.toArray⟩ : ByteArray).size = a0_2.length := rfl
  have e3 : (⟨a0_3.toArray⟩ : ByteArray).size = a0_3.length := rfl
  have hs : F.short l0 := fun r hr' => by
    obtain ⟨_, q⟩ := Q0 r hr'
    have q1 := q (.string ⟨r.1.toArray⟩) (.head _) _ rfl
    have q2 := q (.string ⟨r.2.toArray⟩) (.tail _ (.head _)) _ rfl
    have e1 : (⟨r.1.toArray⟩ : ByteArray).size = r.1.length := rfl
    have e2 : (⟨r.2.toArray⟩ : ByteArray).size = r.2.length := rfl
    exact ⟨by omega, by omega⟩
  refine law_call rplaw_sound (args := [.c (.slc 0 0 l0.length false), .agg [.int .i64 a0_0, .int .i64 a0_1, .str a0_2, .str a0_3]]) (H := [.inp 1 l0]) [hvOf (cod 1).size A0] ?_ rfl (.cons (inp_rel R0 rfl) .nil) (.cons (slc_rel rfl (by simp) R0 u0 m0) (.cons (vrel_scal s0) .nil)) (tab_laid hL)
  exact ⟨⟨⟨rfl, rfl⟩, hs, by omega, by omega⟩, rfl⟩

/-- A world for the witness: what the door's run leaves, the pinned table laid. -/
noncomputable def laidW (os : Os) : World :=
  { World.doorLaid Tryd.prog 4000 os with heap := (World.doorLaid Tryd.prog 4000 os).heap.modify 2 fun
      | .cells _ t frozen => .cells ((Go.Pinned.utf8FirstZ.map fun z : Nat => Value.int .u8 z).toArray) t frozen
      | o => o }
theorem laidW_met (os : Os) (args : Array Value) : laidMetH Tryd.prog Rows.replayStepsRow.laid ((laidW os).forCall (fun _ _ => 0) ⟨#[], args, []⟩).memory :=
  laidMetH_of_parts3 (fuel := 10) (laidMet_of_run' 10 (by kernel_rfl) (by kernel_rfl)) (by kernel_rfl) (by kernel_rfl)
set_option maxRecDepth 100000 in
theorem lifted (os : Os) (started : os.Started) (H : Type) (enc : TypeId × Value → H) :
    ReturnsInHanded {} Tryd.checked os 5 .any (fun w args => (Rows.replayStepsSpec.pre enc Tryd.prog Tryd.f5 [] false w args ∧ laidMetH Tryd.prog Rows.replayStepsRow.laid w) ∧ sizedMet enc Tryd.prog Tryd.f5 (OpenSpec.ofChange Rows.replayStepsSpec) false w args) (Rows.replayStepsSpec.post enc Tryd.prog Tryd.f5 false true false false) :=
  Lift.lawX (C := Tryd.checked) (X := fun w => laidMetH Tryd.prog Rows.replayStepsRow.laid w) (tb := 4) (fun _ _ hh h => h.of_heap hh) (by kernel_rfl) started (by kernel_rfl) Tryd.func5
    (ChangeSpec.witness_shaped (enc := enc) (C := Tryd.checked) (os := os) (X := fun w _ => laidMetH Tryd.prog Rows.replayStepsRow.laid w) false (laidW os) #[.slice none 0 0, .agg #[.int .i64 0, .int .i64 0, .string ByteArray.empty, .string ByteArray.empty]] 8 rfl (World.shaped_of_RefB (by kernel_rfl) (by kernel_rfl)) (by kernel_rfl) (by kernel_rfl) (by kernel_rfl) (laidW_met os _))
    rfl rfl Tryd.underlying4 (by kernel_rfl) (by kernel_rfl)
    (by intro ds hds; rw [Tryd.params5] at hds; simp only [List.length_cons, List.length_nil] at hds; match ds, hds with | [_, _], _ => rfl)
    (fun W args ds p hL h => walkA W args ds p hL h)
theorem over : Rows.replayStepsRow.holds Tryd.pinned (OpenSpec.ofChange Rows.replayStepsSpec) :=
  OpenClaim.holds_of_wide 5 Tryd.f5 rfl rfl rfl rfl rfl rfl rfl ⟨rfl, rfl, rfl, rfl, rfl⟩ rfl rfl rfl rfl rfl (by kernel_rfl) Tryd.func5 (by kernel_rfl)
    (of_decide_eq_true (by kernel_rfl)) (by unfold Func.isWrapper; first | (rw [if_pos (by decide +kernel)]; kernel_rfl) | (rw [if_neg (by decide +kernel)]; exact ⟨rfl, rfl⟩))
    (fun os started H enc _ => lifted os started H enc)
theorem plain (f : FuncId) (fn : Func) (hf : Tryd.pinned.checked.prog.funcNamed "skyway/skywaylaw4.ReplaySteps" = some f) (hfn : Tryd.pinned.checked.prog.funcs[f]? = some fn) :
    true = Tryd.pinned.checked.prog.looks [] ∧ ∀ (j : Nat) t, fn.params[j]? = some t → Tryd.pinned.checked.prog.wantsStandIn t = false := by
  obtain rfl : f = 5 := Option.some.inj ((show Tryd.prog.funcNamed "skyway/skywaylaw4.ReplaySteps" = some 5 by kernel_rfl).symm.trans hf) |>.symm
  obtain rfl : fn = Tryd.f5 := (Option.some.inj (Tryd.func5.symm.trans hfn)).symm
  refine ⟨by kernel_rfl, fun j t ht => ?_⟩
  rw [Tryd.params5] at ht
  have ht' : t = 22 ∨ t = 42 := by simpa using Array.mem_of_getElem? ht
  rcases ht' with rfl | rfl
  · exact (show Tryd.prog.wantsStandIn 22 = false by kernel_rfl)
  · exact (show Tryd.prog.wantsStandIn 42 = false by kernel_rfl)
/-- THE STATEMENT -/
theorem proved : Rows.ReplayStepsCardSaid :=
  Claim7.holds_tied_plain_at .later [] _ _ _ _ over (fun _ h => by cases h) (by kernel_rfl) (fun _ h => by cases h) replaySteps_row_tie rfl ⟨rfl, rfl⟩ (by kernel_rfl) rfl plain (by kernel_rfl)
#print axioms proved
end Go.Proofs.YtoflfgcdagoobaaDoor.ReplaySteps
