/- Parts of the proof, one behind the other: Ct, Cu. -/
import Derived.Test.YtkfkfihjdohjfaaBd36
import Derived.Test.YtkfkfihjdohjfaaBd37
section
/- slices.SortStableFunc at no more than twenty contacts that lie in the order of their flights: by time, then by flight. -/
namespace Go.Proofs.Ytkfkfihjdohjfaa
open Sym Go.RowKit Go.Sort
set_option maxHeartbeats 4000000
def F.okC (l : List F.Co) : Prop := F.asc l = true ∧ (∀ x ∈ l, 0 ≤ x.2.2 ∧ x.2.2 ≤ 200000) ∧ l.length ≤ 20
theorem swoC : SWO (ltOf fun a b : F.Co => a.2.2 - b.2.2) where
  irrefl := fun x => by simp only [ltOf, decide_eq_false_iff_not]; omega
  trans := fun x y z h1 h2 => by simp only [ltOf, decide_eq_true_eq] at *; omega
  ntrans := fun x y z h1 h2 => by simp only [ltOf, decide_eq_false_iff_not] at *; omega
theorem swoL : SWO F.ltL where
  irrefl := fun x => by
    rw [Bool.eq_false_iff]
    exact ltL_irr x
  trans := fun x y z h1 h2 => ltL_trans h1 h2
  ntrans := fun x y z h1 h2 => by
    rw [Bool.eq_false_iff] at *
    exact leL_trans h2 h1
/-! the row's cells -/
noncomputable def encC (x : F.Co) : List Value := ((cod 5).enc x).map Cell.val
theorem encC_len (x : F.Co) : (encC x).length = 3 := rfl
abbrev F.MemC (l : List F.Co) := {x : F.Co // x ∈ l}
def F.vsC {l : List F.Co} (m : List (F.MemC l)) : List F.Co := m.map Subtype.val
theorem vsC_len {l : List F.Co} (m : List (F.MemC l)) : (F.vsC m).length = m.length := List.length_map _
theorem flatC_map {l : List F.Co} [Inhabited (F.MemC l)] (m : List (F.MemC l)) : (flatK (fun x : F.MemC l => encC x.1) 3 m.toArray).toList = vals (cod 5) (F.vsC m) := by
  have hl : (vals (cod 5) (F.vsC m)).length = m.length * 3 := (vals_len (cod 5) (F.vsC m)).trans (congrArg (· * 3) (vsC_len m))
  apply List.ext_getElem?
  intro j
  by_cases hj : j < m.length * 3
  · have h6 : j / 3 < m.length := by omega
    have h7 : j / 3 < (F.vsC m).length := by rw [vsC_len]; exact h6
    have e : (flatK (fun x : F.MemC l => encC x.1) 3 m.toArray)[j]? = some ((encC (m.toArray[j / 3]!).1)[j % 3]!) := by
      have h1 : j < (flatK (fun x : F.MemC l => encC x.1) 3 m.toArray).size := by simpa using hj
      have h2 := get_flatK (fun x : F.MemC l => encC x.1) 3 m.toArray j (by simpa using hj)
      rw [getElem!_pos _ j h1] at h2
      rw [Array.getElem?_eq_getElem h1, h2]
    rw [Array.getElem?_toList, e]
    have hm0 : ∀ x : F.Co, j % 3 < (encC x).length := fun x => by rw [encC_len]; exact Nat.mod_lt _ (by decide)
    have hg : (F.vsC m).getD (j / 3) F.co0 = (m[j / 3]).1 := by rw [List.getD, List.getElem?_eq_getElem h7]; simp [F.vsC]
    have hv : (vals (cod 5) (F.vsC m))[j]? = (encC (m[j / 3]).1)[j % 3]? := by
      have hd : (vals (cod 5) (F.vsC m)).drop (j / 3 * 3) = encC ((F.vsC m).getD (j / 3) F.co0) ++ (vals (cod 5) (F.vsC m)).drop (j / 3 * 3 + 3) := vals_drop (cod 5) (F.vsC m) (j / 3) h7
      have e1 : j = j / 3 * 3 + j % 3 := by omega
      have e2 : (vals (cod 5) (F.vsC m))[j]? = ((vals (cod 5) (F.vsC m)).drop (j / 3 * 3))[j % 3]? := by
        rw [List.getElem?_drop, ← e1]
      rw [e2, hd, List.getElem?_append_left (hm0 _), hg]
    rw [hv]
    have hm : j % 3 < (encC (m[j / 3]).1).length := by rw [encC_len]; exact Nat.mod_lt _ (by decide)
    rw [List.getElem?_eq_getElem hm]
    congr 1
    have ha : m.toArray[j / 3]! = m[j / 3] := by simp [h6]
    rw [ha]
    exact getElem!_pos (encC (m[j / 3]).1) (j % 3) hm
  · rw [List.getElem?_eq_none (by rw [Array.length_toList, size_flatK]; simp; omega), List.getElem?_eq_none (by rw [hl]; omega)]
theorem vsC_attach (l : List F.Co) : F.vsC l.attach = l := List.attach_map_subtype_val l
theorem flatC_vals (l : List F.Co) [Inhabited (F.MemC l)] : (flatK (fun x : F.MemC l => encC x.1) 3 l.attach.toArray).toList = vals (cod 5) l := by
  rw [flatC_map, vsC_attach]
theorem grow_ofC {w w' : World} (h : Blw w w') : ∃ q os', w' = grow (w.drewN q) os' := by
  refine ⟨w'.drawn - w.drawn, w'.heap.extract w.heap.size w'.heap.size, ?_⟩
  obtain ⟨⟨h1, h2, h3, h4, h5⟩, h6⟩ := h
  have hh : w'.heap = w.heap ++ w'.heap.extract w.heap.size w'.heap.size := by
    apply Array.ext_getElem?
    intro k
    by_cases hk : k < w.heap.size
    · rw [Array.getElem?_append_left hk, h5 k hk]
    · rw [Array.getElem?_append_right (by omega), Array.getElem?_extract]
      split
      · congr 1; omega
      · rw [Array.getElem?_eq_none (by omega)]
  have h6 : w.drawn ≤ w'.drawn := h6
  have hd : w'.drawn = w.drawn + (w'.drawn - w.drawn) := by omega
  cases w'
  cases w
  simp only [grow, World.drewN] at *
  subst h1 h2 h3
  rw [← hh, ← hd]
theorem sortL_eq {l : List F.Co} (h : F.dstC l) : F.vsC (l.attach.mergeSort fun x y => !F.ltL y.1 x.1) = F.sortL l := by
  unfold F.vsC
  have hp : ((l.attach.mergeSort fun x y => !F.ltL y.1 x.1).map Subtype.val).Perm l := by
    have := (List.mergeSort_perm l.attach fun x y => !F.ltL y.1 x.1).map Subtype.val
    rwa [List.attach_map_subtype_val] at this
  refine sortedL_one (dstC_perm hp h) ?_ (sortL_sorted l) (hp.trans (sortL_perm l).symm)
  have hb : ∀ a b : F.MemC l, (!F.ltL b.1 a.1) = true ↔ leL a.1 b.1 := fun a b => by
    unfold leL
    rw [Bool.not_eq_true', Bool.eq_false_iff]
  have := List.pairwise_mergeSort (le := fun x y : F.MemC l => !F.ltL y.1 x.1) (fun a b c h1 h2 => (hb a c).2 (leL_trans ((hb a b).1 h1) ((hb b c).1 h2))) (fun a b => by
    rw [Bool.or_eq_true, hb, hb]
    by_cases e : F.ltL b.1 a.1 = true
    · exact .inr fun h => ltL_irr _ (ltL_trans e h)
    · exact .inl e) l.attach
  rw [List.pairwise_map]
  exact this.imp fun h => (hb _ _).1 h
theorem cmpC_call {x y : F.Co} (hx : 0 ≤ x.2.2 ∧ x.2.2 ≤ 200000) (hy : 0 ≤ y.2.2 ∧ y.2.2 ≤ 200000) (W : World) : Calls Try.prog 57 (#[.agg (encC x).toArray, .agg (encC y).toArray] ++ #[]) W fun e w' => e = .returned (.int .i64 (x.2.2 - y.2.2)) ∧ ∃ q os', w' = grow (W.drewN q) os' := by
  have G : Sym.Good (cod := cod) (fun _ => ⟨0, 0, 0, .tuple #[]⟩) [] W (newIn W) := ⟨fun h o ho => by simp at ho, fun h h' o o' b _ ho => by simp at ho, by intro p hp; cases hp⟩
  have sc : ∀ z : F.Co, vrel (fun _ => ⟨0, 0, 0, .tuple #[]⟩) 0 (.agg ((cod 5).enc z)) (.agg (encC z).toArray) := fun z => ⟨_, rfl, scalars_rel rfl⟩
  refine (lcmp_sound.calls [.agg ((cod 5).enc x), .agg ((cod 5).enc y)] [] _ W [.agg (encC x).toArray, .agg (encC y).toArray] (.c (.int .i64 (x.2.2 - y.2.2))) [] rfl G (.cons (sc x) (.cons (sc y) .nil)) ?_).mono ?_
  · exact ⟨⟨hx, hy⟩, rfl⟩
  · rintro e w' ⟨v, env', rfl, _, hv, _, hb⟩
    have : v = .int .i64 (x.2.2 - y.2.2) := hv
    rw [this]
    exact ⟨rfl, grow_ofC hb⟩
theorem asc_attach {l : List F.Co} (h : F.asc l = true) [Inhabited (F.MemC l)] : ∀ p i, p < i → i < l.attach.toArray.size → (ltOf fun a b : F.MemC l => a.1.2.2 - b.1.2.2) l.attach.toArray[i]! l.attach.toArray[p]! = F.ltL (l.attach.toArray[i]!).1 (l.attach.toArray[p]!).1 := by
  intro p i hp hi
  have hs : l.attach.toArray.size = l.length := by simp
  have e : ∀ q, q < l.length → (l.attach.toArray[q]!).1 = l.getD q F.co0 := fun q hq => by
    rw [getElem!_pos l.attach.toArray q (by omega), List.getD_eq_getElem?_getD, List.getElem?_eq_getElem hq]
    simp
  have a := asc_lt h hp (by omega)
  unfold ltOf F.ltL
  simp only [e i (by omega), e p (by omega)]
  rw [lt_asymm' a, Bool.and_false, Bool.or_false, decide_eq_decide]
  omega
theorem sortC_call (b cap : Nat) (l : List F.Co) (w : World) (hne : l ≠ []) (ho : F.okC l) (hr : RowAt w b (vals (cod 5) l)) :
    Calls Try.prog 56 (Value.slice (.some ⟨b, 0, Option.none⟩) l.length cap :: fnVals [57]).toArray w fun e w' => e = .returned (.tuple #[]) ∧ ∃ (n : Nat) (os : Array Obj) (D : Array Value), D.toList.map id = vals (cod 5) (F.sortL l) ∧ w' = grow (putRow id (Sort.ahead w n) b 0 D) os := by
  obtain ⟨x0, hx0⟩ := List.exists_mem_of_ne_nil l hne
  letI : Inhabited (F.MemC l) := ⟨⟨x0, hx0⟩⟩
  have hs : l.attach.toArray.size = l.length := by simp
  have hH : HoldsK (fun x : F.MemC l => encC x.1) 3 w b 0 l.attach.toArray := by
    refine RowAt.holds (e' := id) (D := flatK (fun x : F.MemC l => encC x.1) 3 l.attach.toArray) ?_
    rw [List.map_id, flatC_vals]
    exact hr
  have h1 : ∀ (x : F.MemC l), ∀ v ∈ encC x.1, v.oneCell' = true := fun x v hv => by
    change v ∈ [Value.string ⟨x.1.1.toArray⟩, .int .i64 x.1.2.1, .int .i64 x.1.2.2] at hv
    simp only [List.mem_cons, List.not_mem_nil, or_false] at hv
    rcases hv with rfl | rfl | rfl <;> rfl
  have same := insertionSort_same (ltOf fun a b : F.MemC l => a.1.2.2 - b.1.2.2) (fun a b : F.MemC l => F.ltL a.1 b.1) l.attach.toArray l.attach.toArray.size (Nat.le_refl _) (asc_attach ho.1)
  have lst := insertionSort_list (lt2 := fun a b : F.MemC l => F.ltL a.1 b.1) ⟨fun x => swoL.irrefl x.1, fun x y z => swoL.trans x.1 y.1 z.1, fun x y z => swoL.ntrans x.1 y.1 z.1⟩ (fun x y h1 h2 => Subtype.ext (dstC_one (asc_dst ho.1) x.2 y.2 (ltL_tri (Bool.eq_false_iff.1 h1) (Bool.eq_false_iff.1 h2)).2)) l.attach.toArray
  have R : RowK (fun x : F.MemC l => encC x.1) 3 w b 0 l.attach.toArray := ⟨fun x => encC_len x.1, h1, hH, hr.lt⟩
  have ins := fun (a : Nat) (d : Array (F.MemC l)) (W : World) (hd : l.attach.toArray.size = d.size) (ha : a ≤ d.size) (hW : SWK (fun x : F.MemC l => encC x.1) 3 w b 0 d W) => AnyQ.insertionSortCmpFunc_w { laysCont with } 3 Try.isAgg56 Try.sizeOf56 (fun x : F.MemC l => encC x.1) (fun a b : F.MemC l => a.1.2.2 - b.1.2.2) 57 #[] b 0 cap a d.size l.attach.toArray d w W lcmp_sound.enters (fun m os dk _ x y => cmpC_call (ho.2.1 _ x.2) (ho.2.1 _ y.2) _) R hd hW ⟨fun x => swoC.irrefl x.1, fun x y z => swoC.trans x.1 y.1 z.1, fun x y z => swoC.ntrans x.1 y.1 z.1⟩ ha (Nat.le_refl _) (by have := ho.2.2; omega)
  have h0 := ins 0 l.attach.toArray w rfl (Nat.zero_le _) (SWK.start hH)
  have fin : ∀ w', (∃ n os, w' = sortWorldK (fun x : F.MemC l => encC x.1) 3 w b 0 n (insertionSort (ltOf fun a b : F.MemC l => a.1.2.2 - b.1.2.2) l.attach.toArray 0 l.attach.toArray.size) os) → ∃ (n : Nat) (os : Array Obj) (D : Array Value), D.toList.map id = vals (cod 5) (F.sortL l) ∧ w' = grow (putRow id (Sort.ahead w n) b 0 D) os := by
    rintro w' ⟨n, os, rfl⟩
    refine ⟨n, os, flatK (fun x : F.MemC l => encC x.1) 3 (insertionSort (ltOf fun a b : F.MemC l => a.1.2.2 - b.1.2.2) l.attach.toArray 0 l.attach.toArray.size), ?_, rfl⟩
    have e : insertionSort (ltOf fun a b : F.MemC l => a.1.2.2 - b.1.2.2) l.attach.toArray 0 l.attach.toArray.size = (l.attach.mergeSort fun x y => !F.ltL y.1 x.1).toArray := by
      rw [same]
      apply Array.ext'
      exact lst
    rw [List.map_id, e, flatC_map, sortL_eq (asc_dst ho.1)]
  have st : Calls Try.prog 78 #[.slice (some ⟨b, 0, none⟩) l.length cap, .int .i64 (l.length : Nat), .func (.func 57) #[] #[]] w fun e w' => e = .returned (.tuple #[]) ∧ ∃ (n : Nat) (os : Array Obj) (D : Array Value), D.toList.map id = vals (cod 5) (F.sortL l) ∧ w' = grow (putRow id (Sort.ahead w n) b 0 D) os := by
    by_cases c : l.length < 20
    · have q := stable_small (fun x : F.MemC l => encC x.1) (fun a b : F.MemC l => a.1.2.2 - b.1.2.2) 57 b cap l.attach.toArray w (by omega) (fun a ha => (ins a l.attach.toArray w rfl ha (SWK.start hH)).mono fun e w' h => h)
      rw [hs] at q
      refine q.mono ?_
      rintro e w' ⟨rfl, h⟩
      rw [← hs] at h
      exact ⟨rfl, fin w' h⟩
    · have e20 : l.length = 20 := by have := ho.2.2; omega
      have hD : (insertionSort (ltOf fun a b : F.MemC l => a.1.2.2 - b.1.2.2) l.attach.toArray 0 l.attach.toArray.size).size = l.attach.toArray.size := (insertionSort_holds ⟨fun x => swoC.irrefl x.1, fun x y z => swoC.trans x.1 y.1 z.1, fun x y z => swoC.ntrans x.1 y.1 z.1⟩ _ 0 _ (Nat.zero_le _) (Nat.le_refl _)).1.1
      have q := stable_twenty (fun x : F.MemC l => encC x.1) (fun a b : F.MemC l => a.1.2.2 - b.1.2.2) 57 b cap (insertionSort (ltOf fun a b : F.MemC l => a.1.2.2 - b.1.2.2) l.attach.toArray 0 l.attach.toArray.size) w (by
        have h := h0
        rw [hs, e20] at h
        rw [hs, e20]
        exact h.mono fun e w' h => h) (fun n os => by
        have h := ins 20 _ (sortWorldK (fun x : F.MemC l => encC x.1) 3 w b 0 n (insertionSort (ltOf fun a b : F.MemC l => a.1.2.2 - b.1.2.2) l.attach.toArray 0 l.attach.toArray.size) os) hD.symm (by rw [hD]; omega) ⟨n, os, rfl⟩
        rw [hD, hs, e20, insertionSort_none] at h
        rw [hs, e20]
        exact h.mono fun e w' h => h)
      rw [e20]
      refine q.mono ?_
      rintro e w' ⟨rfl, h⟩
      exact ⟨rfl, fin w' h⟩
  exact stable_of (some ⟨b, 0, none⟩) l.length cap 57 w (fun _ w' => ∃ (n : Nat) (os : Array Obj) (D : Array Value), D.toList.map id = vals (cod 5) (F.sortL l) ∧ w' = grow (putRow id (Sort.ahead w n) b 0 D) os) st
end Go.Proofs.Ytkfkfihjdohjfaa
end
section
/- slices.SortStableFunc at contacts as a summary with a precondition. -/
namespace Go.Proofs.Ytkfkfihjdohjfaa
open Sym Go.RowKit Go.Sort
set_option maxHeartbeats 4000000
set_option maxRecDepth 100000 in
theorem stable_none (p : Option Addr) (cap : Nat) (g : Nat) (w : World) :
    Calls Try.prog 78 #[.slice p 0 cap, .int .i64 ((0 : Nat) : Int), .func (.func g) #[] #[]] w fun e w' => e = .returned (.tuple #[]) ∧ w' = w := by
  have h0 := AnyF.insertionSortCmpFunc_none { laysCont with } p cap (.func (.func g) #[] #[]) w
  have h0 : Calls Try.prog 67 #[.slice p 0 cap, .int .i64 0, .int .i64 0, .func (.func g) #[] #[]] w fun e w' => e = .returned (.tuple #[]) ∧ w' = w := h0
  go_enter Try.func78, Try.ntmps78
  go_wp2
  refine wp_loop_rounds 1 ?_
  rw [rounds_succ]
  go_wp2_with (go_at_call 67; refine h0.mono ?_; rintro e w' ⟨rfl, rfl⟩)
  refine wp_loop_rounds 1 ?_
  rw [rounds_succ]
  go_wp2
  go_end0
  exact ⟨rfl, rfl⟩
theorem sortC_none (p : Option Addr) (cap : Nat) (w : World) : Calls Try.prog 56 (Value.slice p 0 cap :: fnVals [57]).toArray w fun e w' => e = .returned (.tuple #[]) ∧ w' = w :=
  stable_of p 0 cap _ w (fun _ w' => w' = w) (stable_none p cap _ w)
theorem sortC_perms : PermsP Try.prog cod 56 5 [57] F.sortL F.okC Value id where
  enters := enters_fn Try.func56 rfl rfl
  len := sortL_len
  none := sortC_none
  some := fun b cap l w hne ho _ hr => sortC_call b cap l w hne ho hr
noncomputable def s_sortC : Summ cod := s_permP 5 [57] F.sortL F.okC
theorem sortC_sound : SoundIK Try.prog cod 56 true s_sortC := permP_sound sortC_perms
end Go.Proofs.Ytkfkfihjdohjfaa
end
