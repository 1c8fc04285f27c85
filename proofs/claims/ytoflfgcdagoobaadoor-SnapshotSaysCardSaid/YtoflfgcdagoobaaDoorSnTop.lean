/- skywaylaw4.SnapshotSays returns true at every input: the tied card, over the row that lists the library's tables. No condition beside those tables. -/
import Derived.Test.YtoflfgcdagoobaaDoorXn
import Derived.Test.YtoflfgcdagoobaaDoorBd40
import Derived.Test.YtoflfgcdagoobaaDoorBd41
import Derived.Test.YtoflfgcdagoobaaDoorCards
import Derived.Test.YtoflfgcdagoobaaDoorTie
import Derived.SevenTiedAt
import Derived.JoinedOf
namespace Go.Proofs.YtoflfgcdagoobaaDoor.SnapshotSays
open Go.ChangeShapes Go.WideShapes Go.ChangeAt Go.RowKit Sym
open Go.ChangeMaps (open_string)

theorem tab_laid {W : World} (h : laidMetH Tryd.prog Rows.snapshotSaysRow.laid W) : TabW W (newIn W) := by
  rw [MakeChecks.laidMetH_plain _ _ _ (by kernel_rfl)] at h
  have h1 : Lib.TabIs Tryd.prog W "internal/strconv.uint64pow10" .u64 Lib.pow10Tab := Lib.tabIs_of_head (g := 1) (t := 102) (e := 30) (n := 20) (by kernel_rfl) (by kernel_rfl) Tryd.underlying102 Tryd.underlying30 (by kernel_rfl) (by kernel_rfl) (Lift.laid_tail (Lift.laid_tail h))
  have h2 : Lib.TabIs Tryd.prog W "math/bits.deBruijn64tab" .u8 (Lib.deBruijn64tab.map fun z : Nat => (z : Int)) := Lib.tabIs_of_head (g := 7) (t := 129) (e := 5) (n := 64) (by kernel_rfl) (by kernel_rfl) Tryd.underlying129 Tryd.underlying5 (by kernel_rfl) (by kernel_rfl) (Lift.laid_tail h)
  have g1 : Tryd.prog.globalNamed "internal/strconv.uint64pow10" = some 1 := by kernel_rfl
  have g7 : Tryd.prog.globalNamed "math/bits.deBruijn64tab" = some 7 := by kernel_rfl
  have key : ∀ (g : Nat) (name : String) (cs : Array Value), Tryd.prog.globalNamed name = some g → W.var? Tryd.prog name = some cs → (∃ ty tg, W.heap[g]? = some (.cells cs ty tg)) ∧ ¬ newIn W g := by
    intro g name cs hg hv
    unfold World.var? at hv
    rw [hg] at hv
    simp only [Option.bind_some] at hv
    split at hv
    · rename_i cs' ty tg hc
      simp only [Option.some.injEq] at hv
      subst hv
      refine ⟨⟨ty, tg, hc⟩, fun hn => ?_⟩
      have := (Array.getElem?_eq_some_iff.1 hc).1
      unfold newIn at hn
      omega
    · cases hv
  intro p hp
  simp only [tabs, List.mem_cons, List.not_mem_nil, or_false] at hp
  rcases hp with rfl | rfl
  · exact key 1 _ _ g1 h1
  · exact key 7 _ _ g7 (by
      unfold Lib.TabIs at h2
      rw [h2, List.map_map]
      rfl)

set_option maxRecDepth 100000 in
set_option maxHeartbeats 4000000 in
theorem walkA {H : Type} {enc : TypeId × Value → H} (W : World) (args : Array Value) (ds : List (DataW H)) (p : List MemPlace) (hL : laidMetH Tryd.prog Rows.snapshotSaysRow.laid W) (h : Lift.Args enc Tryd.prog Tryd.f3 W args ds p) :
    Calls Tryd.prog 3 args W fun e W' => e = .returned (.bool true) ∧ Below W.heap.size W W' := by
  obtain ⟨hval, hA, hlt, hreach, hfree⟩ := h
  rw [Tryd.params3] at hA hval
  obtain ⟨v0, vs0, d0, ds0, p0, q0, hargs, rfl, rfl, h0, r0⟩ := trodAll_cons hA
  obtain ⟨v1, vs1, d1, ds1, p1, q1, rfl, rfl, rfl, h1, r1⟩ := trodAll_cons r0
  obtain ⟨v2, vs2, d2, ds2, p2, q2, rfl, rfl, rfl, h2, r2⟩ := trodAll_cons r1
  obtain ⟨rfl, rfl, rfl⟩ := trodAll_nil r2
  obtain rfl : args = #[v0, v1, v2] := by cases args; simp_all
  obtain ⟨_, b0⟩ := hval 0 22 v0 rfl rfl
  obtain ⟨_, b1⟩ := hval 1 9 v1 rfl rfl
  obtain ⟨_, b2⟩ := hval 2 9 v2 rfl rfl
  have hr : ∀ n, (n ∈ d0.weights Tryd.prog 22 ∨ n ∈ d1.weights Tryd.prog 9 ∨ n ∈ d2.weights Tryd.prog 9) → n ≤ reachBytes := fun n hn => by
    have := List.all_eq_true.1 hreach n (by
      rw [Tryd.params3]
      rcases hn with hn | hn | hn
      · exact List.mem_append.2 (.inl hn)
      · exact List.mem_append.2 (.inr (List.mem_append.2 (.inl hn)))
      · exact List.mem_append.2 (.inr (List.mem_append.2 (.inr (List.mem_append.2 (.inl hn))))))
    simpa using this
  obtain ⟨A0, c0, l0, rfl, u0, m0, R0, Q0⟩ := in_sliceS (cod := cod) (B := reachBytes) 1 50 (fun _ => True) (ks := [2, 2]) (Tryd.underlying22) (by kernel_rfl) (by kernel_rfl) (by kernel_rfl) (by kernel_rfl) (by
    intro cells h
    obtain ⟨_, _, rfl, _, h⟩ := kc2 h
    obtain ⟨_, _, rfl, _, h⟩ := kc2 h
    obtain rfl := kcn h
    exact ⟨rfl, trivial⟩) b0 h0 (fun n hn => hr n (.inl hn))
  obtain ⟨a1, rfl, rfl, rfl, i1⟩ := open_string Tryd.underlying9 b1 h1
  obtain ⟨a2, rfl, rfl, rfl, i2⟩ := open_string Tryd.underlying9 b2 h2
  have hm : reachBytes ≤ 1000000000000000 := by decide
  have s1 := str_short (B := reachBytes) Tryd.underlying9 h1 (fun n hn => hr n (.inr (.inl hn)))
  have s2 := str_short (B := reachBytes) Tryd.underlying9 h2 (fun n hn => hr n (.inr (.inr hn)))
  have hs : F.short l0 := fun r hr' => by
    obtain ⟨_, q⟩ := Q0 r hr'
    have q1 := q (.string ⟨r.1.toArray⟩) (.head _) _ rfl
    have q2 := q (.string ⟨r.2.toArray⟩) (.tail _ (.head _)) _ rfl
    have e1 : (⟨r.1.toArray⟩ : ByteArray).size = r.1.length := rfl
    have e2 : (⟨r.2.toArray⟩ : ByteArray).size = r.2.length := rfl
    exact ⟨by omega, by omega⟩
  refine law_call snlaw_sound (args := [.c (.slc 0 0 l0.length false), .c (.str a1.data.toList), .c (.str a2.data.toList)]) (H := [.inp 1 l0]) [hvOf (cod 1).size A0] ?_ rfl (.cons (inp_rel R0 rfl) .nil) (.cons (slc_rel rfl (by simp) R0 u0 m0) (.cons (vrel_str _) (.cons (vrel_str _) .nil))) (tab_laid hL)
  exact ⟨⟨⟨rfl, rfl⟩, hs, by omega, by omega⟩, rfl⟩

/-- A world for the witness: what the door's run leaves. -/
noncomputable def laidW (os : Os) : World := World.doorLaid Tryd.prog 4000 os
theorem laidW_met (os : Os) (args : Array Value) : laidMetH Tryd.prog Rows.snapshotSaysRow.laid ((laidW os).forCall (fun _ _ => 0) ⟨#[], args, []⟩).memory :=
  laidMetH_of_parts3 (fuel := 10) (laidMet_of_run' 10 (by kernel_rfl) (by kernel_rfl)) (by kernel_rfl) (by kernel_rfl)
set_option maxRecDepth 100000 in
theorem lifted (os : Os) (started : os.Started) (H : Type) (enc : TypeId × Value → H) :
    ReturnsInHanded {} Tryd.checked os 3 .any (fun w args => (Rows.snapshotSaysSpec.pre enc Tryd.prog Tryd.f3 [] false w args ∧ laidMetH Tryd.prog Rows.snapshotSaysRow.laid w) ∧ sizedMet enc Tryd.prog Tryd.f3 (OpenSpec.ofChange Rows.snapshotSaysSpec) false w args) (Rows.snapshotSaysSpec.post enc Tryd.prog Tryd.f3 false true false false) :=
  Lift.lawX (C := Tryd.checked) (X := fun w => laidMetH Tryd.prog Rows.snapshotSaysRow.laid w) (tb := 4) (fun _ _ hh h => h.of_heap hh) (by kernel_rfl) started (by kernel_rfl) Tryd.func3
    (ChangeSpec.witness_shaped (enc := enc) (C := Tryd.checked) (os := os) (X := fun w _ => laidMetH Tryd.prog Rows.snapshotSaysRow.laid w) false (laidW os) #[.slice none 0 0, .string ByteArray.empty, .string ByteArray.empty] 8 rfl (World.shaped_of_RefB (by kernel_rfl) (by kernel_rfl)) (by kernel_rfl) (by kernel_rfl) (by kernel_rfl) (laidW_met os _))
    rfl rfl Tryd.underlying4 (by kernel_rfl) (by kernel_rfl)
    (by intro ds hds; rw [Tryd.params3] at hds; simp only [List.length_cons, List.length_nil] at hds; match ds, hds with | [_, _, _], _ => rfl)
    (fun W args ds p hL h => walkA W args ds p hL h)
theorem over : Rows.snapshotSaysRow.holds Tryd.pinned (OpenSpec.ofChange Rows.snapshotSaysSpec) :=
  OpenClaim.holds_of_wide 3 Tryd.f3 rfl rfl rfl rfl rfl rfl rfl ⟨rfl, rfl, rfl, rfl, rfl⟩ rfl rfl rfl rfl rfl (by kernel_rfl) Tryd.func3 (by kernel_rfl)
    (of_decide_eq_true (by kernel_rfl)) (by unfold Func.isWrapper; first | (rw [if_pos (by decide +kernel)]; kernel_rfl) | (rw [if_neg (by decide +kernel)]; exact ⟨rfl, rfl⟩))
    (fun os started H enc _ => lifted os started H enc)
theorem plain (f : FuncId) (fn : Func) (hf : Tryd.pinned.checked.prog.funcNamed "skyway/skywaylaw4.SnapshotSays" = some f) (hfn : Tryd.pinned.checked.prog.funcs[f]? = some fn) :
    true = Tryd.pinned.checked.prog.looks [] ∧ ∀ (j : Nat) t, fn.params[j]? = some t → Tryd.pinned.checked.prog.wantsStandIn t = false := by
  obtain rfl : f = 3 := Option.some.inj ((show Tryd.prog.funcNamed "skyway/skywaylaw4.SnapshotSays" = some 3 by kernel_rfl).symm.trans hf) |>.symm
  obtain rfl : fn = Tryd.f3 := (Option.some.inj (Tryd.func3.symm.trans hfn)).symm
  refine ⟨by kernel_rfl, fun j t ht => ?_⟩
  rw [Tryd.params3] at ht
  have ht' : t = 22 ∨ t = 9 := by simpa using Array.mem_of_getElem? ht
  rcases ht' with rfl | rfl
  · exact (show Tryd.prog.wantsStandIn 22 = false by kernel_rfl)
  · exact (show Tryd.prog.wantsStandIn 9 = false by kernel_rfl)
/-- THE STATEMENT -/
theorem proved : Rows.SnapshotSaysCardSaid :=
  Claim7.holds_tied_plain_at .later [] _ _ _ _ over (fun _ h => by cases h) (by kernel_rfl) (fun _ h => by cases h) snapshotSays_row_tie rfl ⟨rfl, rfl⟩ (by kernel_rfl) rfl plain (by kernel_rfl)
#print axioms proved
end Go.Proofs.YtoflfgcdagoobaaDoor.SnapshotSays
