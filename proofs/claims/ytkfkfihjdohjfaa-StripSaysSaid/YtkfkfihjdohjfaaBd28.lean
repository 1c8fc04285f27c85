/- Parts of the proof, one behind the other: ShP, To. -/
import Derived.Shelf.SlGeneric
import Derived.Ground.SlgmProg
import Derived.Ground.SlsfProg
import Derived.Shelf.SortM.Plain
import Derived.Shelf.SortM.SortNone
import Derived.Shelf.SlSortCmp.WholeK
import Derived.Shelf.SlSortCmp.NoneTotal
import Derived.Test.YtkfkfihjdohjfaaChecked
import Derived.Test.YtkfkfihjdohjfaaBd26
import Derived.Test.YtkfkfihjdohjfaaBd27
section
/- The contracts of the library that this proof leans on, laid at this program. -/
namespace Go.Proofs
open Go.Shelf
def Ytkfkfihjdohjfaa.laysStrip_ren : Go.Shelf.Ren := ⟨fun | 6 => 44 | 15 => 53 | 14 => 59 | 28 => 75 | 29 => 76 | 20 => 79 | 21 => 80 | 22 => 81 | 23 => 82 | 24 => 83 | 25 => 84 | 26 => 85 | 27 => 86 | 46 => 95 | 47 => 90 | 48 => 91 | 49 => 96 | 50 => 97 | 57 => 102 | n => n, fun | 22 => 29 | 24 => 26 | 25 => 76 | 3 => 3 | 39 => 85 | 0 => 0 | 53 => 102 | 55 => 104 | 4 => 4 | 46 => 96 | 45 => 95 | 50 => 80 | 5 => 5 | 9 => 9 | 66 => 111 | 70 => 115 | 76 => 121 | 77 => 122 | n => n, fun | n => n⟩
theorem Ytkfkfihjdohjfaa.laysStrip : Go.Proofs.SlLaysF0.n6 Try.prog Ytkfkfihjdohjfaa.laysStrip_ren := {
  mixed := by kernel_rfl
  f6 := ⟨Try.f44.name, by decide, Try.func44.trans (congrArg some (by kernel_rfl))⟩
  f14 := ⟨Try.f59.name, by decide, Try.func59.trans (congrArg some (by kernel_rfl))⟩
  f15 := Try.func53.trans (congrArg some (by kernel_rfl))
  f20 := ⟨Try.f79.name, by decide, Try.func79.trans (congrArg some (by kernel_rfl))⟩
  f21 := ⟨Try.f80.name, by decide, Try.func80.trans (congrArg some (by kernel_rfl))⟩
  f22 := ⟨Try.f81.name, by decide, Try.func81.trans (congrArg some (by kernel_rfl))⟩
  f23 := ⟨Try.f82.name, by decide, Try.func82.trans (congrArg some (by kernel_rfl))⟩
  f24 := ⟨Try.f83.name, by decide, Try.func83.trans (congrArg some (by kernel_rfl))⟩
  f25 := ⟨Try.f84.name, by decide, Try.func84.trans (congrArg some (by kernel_rfl))⟩
  f26 := ⟨Try.f85.name, by decide, Try.func85.trans (congrArg some (by kernel_rfl))⟩
  f27 := ⟨Try.f86.name, by decide, Try.func86.trans (congrArg some (by kernel_rfl))⟩
  f28 := Try.func75.trans (congrArg some (by kernel_rfl))
  f29 := Try.func76.trans (congrArg some (by kernel_rfl))
  f46 := ⟨Try.f95.name, by decide, Try.func95.trans (congrArg some (by kernel_rfl))⟩
  f47 := Try.func90.trans (congrArg some (by kernel_rfl))
  f48 := Try.func91.trans (congrArg some (by kernel_rfl))
  f49 := ⟨Try.f96.name, by decide, Try.func96.trans (congrArg some (by kernel_rfl))⟩
  f50 := ⟨Try.f97.name, by decide, Try.func97.trans (congrArg some (by kernel_rfl))⟩
  f57 := ⟨Try.f102.name, by decide, Try.func102.trans (congrArg some (by kernel_rfl))⟩
  t0 := Try.underlying0
  a0 := Try.isAgg0
  z0 := Try.sizeOf0
  v0 := Try.zeroValue0
  t3 := Try.underlying3
  a3 := Try.isAgg3
  z3 := Try.sizeOf3
  v3 := Try.zeroValue3
  t4 := Try.underlying4
  a4 := Try.isAgg4
  z4 := Try.sizeOf4
  v4 := Try.zeroValue4
  t5 := Try.underlying5
  a5 := Try.isAgg5
  z5 := Try.sizeOf5
  v5 := Try.zeroValue5
  t9 := Try.underlying9
  a9 := Try.isAgg9
  z9 := Try.sizeOf9
  v9 := Try.zeroValue9
  t22 := Try.underlying29
  a22 := Try.isAgg29
  z22 := Try.sizeOf29
  v22 := Try.zeroValue29
  t25 := Try.underlying76
  a25 := Try.isAgg76
  z25 := Try.sizeOf76
  v25 := Try.zeroValue76
  t39 := Try.underlying85
  a39 := Try.isAgg85
  z39 := Try.sizeOf85
  v39 := Try.zeroValue85
  t45 := Try.underlying95
  a45 := Try.isAgg95
  z45 := Try.sizeOf95
  v45 := Try.zeroValue95
  t46 := Try.underlying96
  a46 := Try.isAgg96
  z46 := Try.sizeOf96
  v46 := Try.zeroValue96
  t50 := Try.underlying80
  a50 := Try.isAgg80
  z50 := Try.sizeOf80
  v50 := Try.zeroValue80
  t53 := Try.underlying102
  a53 := Try.isAgg102
  z53 := Try.sizeOf102
  v53 := Try.zeroValue102
  t55 := Try.underlying104
  a55 := Try.isAgg104
  z55 := Try.sizeOf104
  v55 := Try.zeroValue104
  t66 := Try.underlying111
  a66 := Try.isAgg111
  z66 := Try.sizeOf111
  v66 := Try.zeroValue111
  t70 := Try.underlying115
  a70 := Try.isAgg115
  z70 := Try.sizeOf115
  v70 := Try.zeroValue115
  t76 := Try.underlying121
  a76 := Try.isAgg121
  z76 := Try.sizeOf121
  v76 := Try.zeroValue121
  t77 := Try.underlying122
  a77 := Try.isAgg122
  z77 := Try.sizeOf122
  v77 := Try.zeroValue122 }
def Ytkfkfihjdohjfaa.laysCont_ren : Go.Shelf.Ren := ⟨fun | 6 => 31 | 15 => 53 | 14 => 52 | 28 => 75 | 29 => 76 | 20 => 67 | 21 => 68 | 22 => 69 | 23 => 70 | 24 => 71 | 25 => 72 | 26 => 73 | 27 => 74 | 46 => 89 | 47 => 90 | 48 => 91 | 49 => 92 | 50 => 93 | 57 => 100 | n => n, fun | 22 => 51 | 24 => 56 | 25 => 62 | 3 => 3 | 39 => 85 | 0 => 0 | 53 => 102 | 55 => 104 | 4 => 4 | 46 => 96 | 45 => 95 | 50 => 80 | 5 => 5 | 9 => 9 | 66 => 111 | 70 => 115 | 76 => 121 | 77 => 122 | n => n, fun | n => n⟩
theorem Ytkfkfihjdohjfaa.laysCont : Go.Proofs.SlLaysF0.n6 Try.prog Ytkfkfihjdohjfaa.laysCont_ren := {
  mixed := by kernel_rfl
  f6 := ⟨Try.f31.name, by decide, Try.func31.trans (congrArg some (by kernel_rfl))⟩
  f14 := ⟨Try.f52.name, by decide, Try.func52.trans (congrArg some (by kernel_rfl))⟩
  f15 := Try.func53.trans (congrArg some (by kernel_rfl))
  f20 := ⟨Try.f67.name, by decide, Try.func67.trans (congrArg some (by kernel_rfl))⟩
  f21 := ⟨Try.f68.name, by decide, Try.func68.trans (congrArg some (by kernel_rfl))⟩
  f22 := ⟨Try.f69.name, by decide, Try.func69.trans (congrArg some (by kernel_rfl))⟩
  f23 := ⟨Try.f70.name, by decide, Try.func70.trans (congrArg some (by kernel_rfl))⟩
  f24 := ⟨Try.f71.name, by decide, Try.func71.trans (congrArg some (by kernel_rfl))⟩
  f25 := ⟨Try.f72.name, by decide, Try.func72.trans (congrArg some (by kernel_rfl))⟩
  f26 := ⟨Try.f73.name, by decide, Try.func73.trans (congrArg some (by kernel_rfl))⟩
  f27 := ⟨Try.f74.name, by decide, Try.func74.trans (congrArg some (by kernel_rfl))⟩
  f28 := Try.func75.trans (congrArg some (by kernel_rfl))
  f29 := Try.func76.trans (congrArg some (by kernel_rfl))
  f46 := ⟨Try.f89.name, by decide, Try.func89.trans (congrArg some (by kernel_rfl))⟩
  f47 := Try.func90.trans (congrArg some (by kernel_rfl))
  f48 := Try.func91.trans (congrArg some (by kernel_rfl))
  f49 := ⟨Try.f92.name, by decide, Try.func92.trans (congrArg some (by kernel_rfl))⟩
  f50 := ⟨Try.f93.name, by decide, Try.func93.trans (congrArg some (by kernel_rfl))⟩
  f57 := ⟨Try.f100.name, by decide, Try.func100.trans (congrArg some (by kernel_rfl))⟩
  t0 := Try.underlying0
  a0 := Try.isAgg0
  z0 := Try.sizeOf0
  v0 := Try.zeroValue0
  t3 := Try.underlying3
  a3 := Try.isAgg3
  z3 := Try.sizeOf3
  v3 := Try.zeroValue3
  t4 := Try.underlying4
  a4 := Try.isAgg4
  z4 := Try.sizeOf4
  v4 := Try.zeroValue4
  t5 := Try.underlying5
  a5 := Try.isAgg5
  z5 := Try.sizeOf5
  v5 := Try.zeroValue5
  t9 := Try.underlying9
  a9 := Try.isAgg9
  z9 := Try.sizeOf9
  v9 := Try.zeroValue9
  t22 := Try.underlying51
  a22 := Try.isAgg51
  z22 := Try.sizeOf51
  v22 := Try.zeroValue51
  t25 := Try.underlying62
  a25 := Try.isAgg62
  z25 := Try.sizeOf62
  v25 := Try.zeroValue62
  t39 := Try.underlying85
  a39 := Try.isAgg85
  z39 := Try.sizeOf85
  v39 := Try.zeroValue85
  t45 := Try.underlying95
  a45 := Try.isAgg95
  z45 := Try.sizeOf95
  v45 := Try.zeroValue95
  t46 := Try.underlying96
  a46 := Try.isAgg96
  z46 := Try.sizeOf96
  v46 := Try.zeroValue96
  t50 := Try.underlying80
  a50 := Try.isAgg80
  z50 := Try.sizeOf80
  v50 := Try.zeroValue80
  t53 := Try.underlying102
  a53 := Try.isAgg102
  z53 := Try.sizeOf102
  v53 := Try.zeroValue102
  t55 := Try.underlying104
  a55 := Try.isAgg104
  z55 := Try.sizeOf104
  v55 := Try.zeroValue104
  t66 := Try.underlying111
  a66 := Try.isAgg111
  z66 := Try.sizeOf111
  v66 := Try.zeroValue111
  t70 := Try.underlying115
  a70 := Try.isAgg115
  z70 := Try.sizeOf115
  v70 := Try.zeroValue115
  t76 := Try.underlying121
  a76 := Try.isAgg121
  z76 := Try.sizeOf121
  v76 := Try.zeroValue121
  t77 := Try.underlying122
  a77 := Try.isAgg122
  z77 := Try.sizeOf122
  v77 := Try.zeroValue122 }
end Go.Proofs
end
section
/- slices.SortFunc at strips by time and flight, out of the library's contract, where no flight comes twice. -/
namespace Go.Proofs.Ytkfkfihjdohjfaa
open Sym Go.RowKit Go.Sort
set_option maxHeartbeats 4000000
def F.okB (l : List F.St) : Prop := F.dst l ∧ F.tmO l
theorem swoB : SWO (ltOf F.cmpB) where
  irrefl := fun x => by simp only [ltOf, decide_eq_false_iff_not, cmpB_lt]; exact ltB_irr x
  trans := fun x y z h1 h2 => by
    simp only [ltOf, decide_eq_true_eq, cmpB_lt] at *
    exact ltB_trans h1 h2
  ntrans := fun x y z h1 h2 => by
    simp only [ltOf, decide_eq_false_iff_not, cmpB_lt] at *
    exact leB_trans h2 h1
/-! the row's cells -/
noncomputable def encT (x : F.St) : List Value := ((cod 1).enc x).map Cell.val
theorem encT_len (x : F.St) : (encT x).length = 5 := rfl
abbrev F.Mem (l : List F.St) := {x : F.St // x ∈ l}
def F.vs {l : List F.St} (m : List (F.Mem l)) : List F.St := m.map Subtype.val
theorem vs_len {l : List F.St} (m : List (F.Mem l)) : (F.vs m).length = m.length := List.length_map _
theorem flatT_map {l : List F.St} [Inhabited (F.Mem l)] (m : List (F.Mem l)) : (flatK (fun x : F.Mem l => encT x.1) 5 m.toArray).toList = vals (cod 1) (F.vs m) := by
  have hl : (vals (cod 1) (F.vs m)).length = m.length * 5 := (vals_len (cod 1) (F.vs m)).trans (congrArg (· * 5) (vs_len m))
  apply List.ext_getElem?
  intro j
  by_cases hj : j < m.length * 5
  · have h6 : j / 5 < m.length := by omega
    have h7 : j / 5 < (F.vs m).length := by rw [vs_len]; exact h6
    have e : (flatK (fun x : F.Mem l => encT x.1) 5 m.toArray)[j]? = some ((encT (m.toArray[j / 5]!).1)[j % 5]!) := by
      have h1 : j < (flatK (fun x : F.Mem l => encT x.1) 5 m.toArray).size := by simpa using hj
      have h2 := get_flatK (fun x : F.Mem l => encT x.1) 5 m.toArray j (by simpa using hj)
      rw [getElem!_pos _ j h1] at h2
      rw [Array.getElem?_eq_getElem h1, h2]
    rw [Array.getElem?_toList, e]
    have hm0 : ∀ x : F.St, j % 5 < (encT x).length := fun x => by rw [encT_len]; exact Nat.mod_lt _ (by decide)
    have hg : (F.vs m).getD (j / 5) F.st0 = (m[j / 5]).1 := by rw [List.getD, List.getElem?_eq_getElem h7]; simp [F.vs]
    have hv : (vals (cod 1) (F.vs m))[j]? = (encT (m[j / 5]).1)[j % 5]? := by
      have hd : (vals (cod 1) (F.vs m)).drop (j / 5 * 5) = encT ((F.vs m).getD (j / 5) F.st0) ++ (vals (cod 1) (F.vs m)).drop (j / 5 * 5 + 5) := vals_drop (cod 1) (F.vs m) (j / 5) h7
      have e1 : j = j / 5 * 5 + j % 5 := by omega
      have e2 : (vals (cod 1) (F.vs m))[j]? = ((vals (cod 1) (F.vs m)).drop (j / 5 * 5))[j % 5]? := by
        rw [List.getElem?_drop, ← e1]
      rw [e2, hd, List.getElem?_append_left (hm0 _), hg]
    rw [hv]
    have hm : j % 5 < (encT (m[j / 5]).1).length := by rw [encT_len]; exact Nat.mod_lt _ (by decide)
    rw [List.getElem?_eq_getElem hm]
    congr 1
    have ha : m.toArray[j / 5]! = m[j / 5] := by simp [h6]
    rw [ha]
    exact getElem!_pos (encT (m[j / 5]).1) (j % 5) hm
  · rw [List.getElem?_eq_none (by rw [Array.length_toList, size_flatK]; simp; omega), List.getElem?_eq_none (by rw [hl]; omega)]
theorem vs_attach (l : List F.St) : F.vs l.attach = l := List.attach_map_subtype_val l
theorem flatT_vals (l : List F.St) [Inhabited (F.Mem l)] : (flatK (fun x : F.Mem l => encT x.1) 5 l.attach.toArray).toList = vals (cod 1) l := by
  rw [flatT_map, vs_attach]
theorem sortB_eq {l : List F.St} (h : F.okB l) : F.vs (l.attach.mergeSort fun x y => !(ltOf fun a b : F.Mem l => F.cmpB a.1 b.1) y x) = F.sortB l := by
  unfold F.vs
  have hp : ((l.attach.mergeSort fun x y => !(ltOf fun a b : F.Mem l => F.cmpB a.1 b.1) y x).map Subtype.val).Perm l := by
    have := (List.mergeSort_perm l.attach fun x y => !(ltOf fun a b : F.Mem l => F.cmpB a.1 b.1) y x).map Subtype.val
    rwa [List.attach_map_subtype_val] at this
  refine sortedB_one (dst_perm hp h.1) ?_ (sortB_sorted l) (hp.trans (sortB_perm l).symm)
  have hb : ∀ a b : F.Mem l, (!(ltOf fun a b : F.Mem l => F.cmpB a.1 b.1) b a) = true ↔ leB a.1 b.1 := fun a b => by
    unfold ltOf leB
    rw [Bool.not_eq_true', decide_eq_false_iff_not, cmpB_lt]
  have := List.pairwise_mergeSort (le := fun x y : F.Mem l => !(ltOf fun a b : F.Mem l => F.cmpB a.1 b.1) y x) (fun a b c h1 h2 => (hb a c).2 (leB_trans ((hb a b).1 h1) ((hb b c).1 h2))) (fun a b => by
    rw [Bool.or_eq_true, hb, hb]
    by_cases e : F.ltB b.1 a.1 = true
    · exact .inr fun h => ltB_irr _ (ltB_trans e h)
    · exact .inl e) l.attach
  rw [List.pairwise_map]
  exact this.imp fun h => (hb _ _).1 h
/-! the call -/
theorem grow_of {w w' : World} (h : Blw w w') : ∃ q os', w' = grow (w.drewN q) os' := by
  refine ⟨w'.drawn - w.drawn, w'.heap.extract w.heap.size w'.heap.size, ?_⟩
  obtain ⟨⟨h1, h2, h3, h4, h5⟩, h6⟩ := h
  have hh : w'.heap = w.heap ++ w'.heap.extract w.heap.size w'.heap.size := by
    apply Array.ext_getElem?
    intro k
    by_cases hk : k < w.heap.size
    · rw [Array.getElem?_append_left hk, h5 k hk]
    · rw [Array.getElem?_append_right (by omega), Array.getElem?_extract]
      split
      · congr 1; omega
      · rw [Array.getElem?_eq_none (by omega)]
  have h6 : w.drawn ≤ w'.drawn := h6
  have hd : w'.drawn = w.drawn + (w'.drawn - w.drawn) := by omega
  cases w'
  cases w
  simp only [grow, World.drewN] at *
  subst h1 h2 h3
  rw [← hh, ← hd]
theorem cmpB_call {x y : F.St} (hx : 0 ≤ x.2.2.1 ∧ x.2.2.1 ≤ 200000) (hy : 0 ≤ y.2.2.1 ∧ y.2.2.1 ≤ 200000) (W : World) : Calls Try.prog 45 (#[.agg (encT x).toArray, .agg (encT y).toArray] ++ #[]) W fun e w' => e = .returned (.int .i64 (F.cmpB x y)) ∧ ∃ q os', w' = grow (W.drewN q) os' := by
  have G : Sym.Good (cod := cod) (fun _ => ⟨0, 0, 0, .tuple #[]⟩) [] W (newIn W) := ⟨fun h o ho => by simp at ho, fun h h' o o' b _ ho => by simp at ho, by intro p hp; cases hp⟩
  have sc : ∀ z : F.St, vrel (fun _ => ⟨0, 0, 0, .tuple #[]⟩) 0 (.agg ((cod 1).enc z)) (.agg (encT z).toArray) := fun z => ⟨_, rfl, scalars_rel rfl⟩
  refine (cmpB_sound.calls [.agg ((cod 1).enc x), .agg ((cod 1).enc y)] [] _ W [.agg (encT x).toArray, .agg (encT y).toArray] (.c (.int .i64 (F.cmpB x y))) [] rfl G (.cons (sc x) (.cons (sc y) .nil)) ?_).mono ?_
  · exact ⟨⟨hx, hy⟩, rfl⟩
  · rintro e w' ⟨v, env', rfl, _, hv, _, hb⟩
    have : v = .int .i64 (F.cmpB x y) := hv
    rw [this]
    exact ⟨rfl, grow_of hb⟩
theorem sortB_call (b cap : Nat) (l : List F.St) (w : World) (hne : l ≠ []) (ho : F.okB l) (hm : l.length ≤ 1000000) (hr : RowAt w b (vals (cod 1) l)) :
    Calls Try.prog 44 (Value.slice (.some ⟨b, 0, Option.none⟩) l.length cap :: fnVals [45]).toArray w fun e w' => e = .returned (.tuple #[]) ∧ ∃ (n : Nat) (os : Array Obj) (D : Array Value), D.toList.map id = vals (cod 1) (F.sortB l) ∧ w' = grow (putRow id (Sort.ahead w n) b 0 D) os := by
  obtain ⟨x0, hx0⟩ := List.exists_mem_of_ne_nil l hne
  letI : Inhabited (F.Mem l) := ⟨⟨x0, hx0⟩⟩
  have hH : HoldsK (fun x : F.Mem l => encT x.1) 5 w b 0 l.attach.toArray := by
    refine RowAt.holds (e' := id) (D := flatK (fun x : F.Mem l => encT x.1) 5 l.attach.toArray) ?_
    rw [List.map_id, flatT_vals]
    exact hr
  have hcon := AnyQ.slices_SortFunc_total laysStrip 5 Try.isAgg26 Try.sizeOf26 (fun x : F.Mem l => encT x.1) (fun x => encT_len x.1) (fun x v hv => by
    change v ∈ [Value.string ⟨x.1.1.toArray⟩, .string ⟨x.1.2.1.toArray⟩, .int .i64 x.1.2.2.1, .int .i64 x.1.2.2.2.1, .int .i64 x.1.2.2.2.2] at hv
    simp only [List.mem_cons, List.not_mem_nil, or_false] at hv
    rcases hv with rfl | rfl | rfl | rfl | rfl <;> rfl) (fun x y : F.Mem l => F.cmpB x.1 y.1) ⟨fun x => swoB.irrefl x.1, fun x y z => swoB.trans x.1 y.1 z.1, fun x y z => swoB.ntrans x.1 y.1 z.1⟩ 45 #[] b 0 cap l.attach.toArray w cmpB_sound.enters (fun m os dk _ x y => cmpB_call (ho.2 _ x.2) (ho.2 _ y.2) _) hH hr.lt (by simp; omega) (fun x y h1 h2 => by
    simp only [ltOf, decide_eq_false_iff_not, cmpB_lt] at h1 h2
    exact Subtype.ext (dst_one ho.1 x.2 y.2 (ltB_tri h1 h2).2))
  have hs : l.attach.toArray.size = l.length := by simp
  rw [hs] at hcon
  refine hcon.mono ?_
  rintro e w' ⟨rfl, n, os, rfl⟩
  refine ⟨rfl, n, os, flatK (fun x : F.Mem l => encT x.1) 5 (l.attach.mergeSort fun x y => !(ltOf fun a b : F.Mem l => F.cmpB a.1 b.1) y x).toArray, by rw [List.map_id, flatT_map, sortB_eq ho], ?_⟩
  rfl
theorem sortB_none (p : Option Addr) (cap : Nat) (w : World) : Calls Try.prog 44 (Value.slice p 0 cap :: fnVals [45]).toArray w fun e w' => e = .returned (.tuple #[]) ∧ w' = w :=
  AnyF.slices_SortFunc_none laysStrip p cap _ w
theorem sortB_perms : PermsP Try.prog cod 44 1 [45] F.sortB F.okB Value id where
  enters := enters_fn Try.func44 rfl rfl
  len := sortB_len
  none := sortB_none
  some := fun b cap l w hne ho hm hr => sortB_call b cap l w hne ho hm hr
noncomputable def s_sortB : Summ cod := s_permP 1 [45] F.sortB F.okB
theorem sortB_sound : SoundIK Try.prog cod 44 true s_sortB := permP_sound sortB_perms
end Go.Proofs.Ytkfkfihjdohjfaa
end
