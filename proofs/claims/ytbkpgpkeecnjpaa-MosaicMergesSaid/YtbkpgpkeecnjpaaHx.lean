/- slices.SortFunc at spots by fuse.Compare, out of the library's contract. -/
import Derived.Test.YtbkpgpkeecnjpaaHv
import Derived.Test.YtbkpgpkeecnjpaaSym26
import Derived.Test.YtbkpgpkeecnjpaaShP
namespace Go.Proofs.Ytbkpgpkeecnjpaa
open Sym Go.RowKit Go.Sort
set_option maxHeartbeats 4000000
def F.ltS (a b : F.Sp) : Prop := a.1 < b.1 ∨ (a.1 = b.1 ∧ (a.2.2.2.2.2 < b.2.2.2.2.2 ∨ (a.2.2.2.2.2 = b.2.2.2.2.2 ∧ (a.2.1 < b.2.1 ∨ (a.2.1 = b.2.1 ∧ (a.2.2.1 < b.2.2.1 ∨ (a.2.2.1 = b.2.2.1 ∧ (a.2.2.2.1 < b.2.2.2.1 ∨ (a.2.2.2.1 = b.2.2.2.1 ∧ a.2.2.2.2.1 < b.2.2.2.2.1)))))))))
theorem orF_lt (x : Int) (l : List Int) : F.orF (x :: l) < 0 ↔ x < 0 ∨ (x = 0 ∧ F.orF l < 0) := by
  rw [F.orF]
  split <;> omega
theorem cmpI_lt (a b : Int) : F.cmpI a b < 0 ↔ a < b := by
  unfold F.cmpI
  split
  · omega
  · split <;> omega
theorem cmpI_zero (a b : Int) : F.cmpI a b = 0 ↔ a = b := by
  unfold F.cmpI
  split
  · omega
  · split <;> omega
theorem cmpS_lt (a b : F.Sp) : F.cmpS a b < 0 ↔ F.ltS a b := by
  unfold F.cmpS F.ltS
  simp only [orF_lt, cmpI_lt, cmpI_zero]
  have : ¬ F.orF [] < 0 := by decide
  simp only [this, and_false, or_false]
theorem ltS_trans {a b c : F.Sp} (h1 : F.ltS a b) (h2 : F.ltS b c) : F.ltS a c := by
  unfold F.ltS at *
  omega
theorem ltS_tri (a b : F.Sp) (h1 : ¬ F.ltS a b) (h2 : ¬ F.ltS b a) : a = b := by
  obtain ⟨a1, a2, a3, a4, a5, a6⟩ := a
  obtain ⟨b1, b2, b3, b4, b5, b6⟩ := b
  unfold F.ltS at *
  simp only [Prod.mk.injEq]
  simp only at h1 h2
  omega
theorem ltS_irr (a : F.Sp) : ¬ F.ltS a a := by
  unfold F.ltS
  omega
theorem swoS : SWO (ltOf F.cmpS) where
  irrefl := fun x => by simp only [ltOf, decide_eq_false_iff_not, cmpS_lt]; exact ltS_irr x
  trans := fun x y z h1 h2 => by
    simp only [ltOf, decide_eq_true_eq, cmpS_lt] at *
    exact ltS_trans h1 h2
  ntrans := fun x y z h1 h2 => by
    simp only [ltOf, decide_eq_false_iff_not, cmpS_lt] at *
    intro h
    by_cases e : F.ltS y x
    · exact h2 (by
        by_cases e2 : F.ltS z y
        · exact absurd (ltS_trans e2 (ltS_trans e h)) (ltS_irr _)
        · exact absurd (ltS_trans e h) h2)
    · rw [ltS_tri x y h1 e] at h
      exact h2 h
/-! the row's cells -/
noncomputable def encS (x : F.Sp) : List Value := ((cod 2).enc x).map Cell.val
theorem encS_len (x : F.Sp) : (encS x).length = 6 := rfl
instance : Inhabited F.Sp := ⟨F.sp0⟩
theorem flatK_vals (l : List F.Sp) : (flatK encS 6 l.toArray).toList = vals (cod 2) l := by
  have hl : (vals (cod 2) l).length = l.length * 6 := vals_len _ _
  apply List.ext_getElem?
  intro j
  by_cases hj : j < l.length * 6
  · have h6 : j / 6 < l.length := by omega
    have e : (flatK encS 6 l.toArray)[j]? = some ((encS l.toArray[j / 6]!)[j % 6]!) := by
      have h1 : j < (flatK encS 6 l.toArray).size := by simpa using hj
      have h2 := get_flatK encS 6 l.toArray j (by simpa using hj)
      rw [getElem!_pos _ j h1] at h2
      rw [Array.getElem?_eq_getElem h1, h2]
    rw [Array.getElem?_toList, e]
    have hm0 : ∀ x : F.Sp, j % 6 < (encS x).length := fun x => by rw [encS_len]; exact Nat.mod_lt _ (by decide)
    have hg : l.getD (j / 6) F.sp0 = l[j / 6] := by rw [List.getD, List.getElem?_eq_getElem h6]; rfl
    have hv : (vals (cod 2) l)[j]? = (encS l[j / 6])[j % 6]? := by
      have hd : (vals (cod 2) l).drop (j / 6 * 6) = encS (l.getD (j / 6) F.sp0) ++ (vals (cod 2) l).drop (j / 6 * 6 + 6) := vals_drop (cod 2) l (j / 6) h6
      have e1 : j = j / 6 * 6 + j % 6 := by omega
      have e2 : (vals (cod 2) l)[j]? = ((vals (cod 2) l).drop (j / 6 * 6))[j % 6]? := by
        rw [List.getElem?_drop, ← e1]
      rw [e2, hd, List.getElem?_append_left (hm0 _), hg]
    rw [hv]
    have hm : j % 6 < (encS l[j / 6]).length := by rw [encS_len]; exact Nat.mod_lt _ (by decide)
    rw [List.getElem?_eq_getElem hm]
    congr 1
    have ha : l.toArray[j / 6]! = l[j / 6] := by simp [h6]
    rw [ha]
    exact getElem!_pos (encS l[j / 6]) (j % 6) hm
  · rw [List.getElem?_eq_none (by rw [Array.length_toList, size_flatK]; simp; omega), List.getElem?_eq_none (by rw [hl]; omega)]
/-! the sort, by structure -/
def F.insS (x : F.Sp) : List F.Sp → List F.Sp
  | [] => [x]
  | y :: r => if F.cmpS y x < 0 then y :: F.insS x r else x :: y :: r
def F.sortS : List F.Sp → List F.Sp
  | [] => []
  | x :: r => F.insS x (F.sortS r)
theorem insS_perm (x : F.Sp) : ∀ l : List F.Sp, (F.insS x l).Perm (x :: l)
  | [] => .refl _
  | y :: r => by
    unfold F.insS
    split
    · exact ((insS_perm x r).cons y).trans (.swap x y r)
    · exact .refl _
theorem sortS_perm : ∀ l : List F.Sp, (F.sortS l).Perm l
  | [] => .refl _
  | x :: r => (insS_perm x (F.sortS r)).trans ((sortS_perm r).cons x)
theorem sortS_len (l : List F.Sp) : (F.sortS l).length = l.length := (sortS_perm l).length_eq
def leS (a b : F.Sp) : Prop := ¬ F.ltS b a
theorem leS_trans {a b c : F.Sp} (h1 : leS a b) (h2 : leS b c) : leS a c := by
  intro h
  by_cases e : F.ltS b a
  · exact h1 e
  · by_cases e2 : F.ltS a b
    · exact h2 (ltS_trans h e2)
    · rw [ltS_tri a b e2 e] at h
      exact h2 h
theorem insS_sorted (x : F.Sp) : ∀ l : List F.Sp, l.Pairwise leS → (F.insS x l).Pairwise leS
  | [], _ => by simp [F.insS]
  | y :: r, h => by
    rw [List.pairwise_cons] at h
    unfold F.insS
    split
    · rename_i hxy
      rw [cmpS_lt] at hxy
      rw [List.pairwise_cons]
      refine ⟨fun z hz => ?_, insS_sorted x r h.2⟩
      have := (insS_perm x r).mem_iff.1 hz
      rcases List.mem_cons.1 this with rfl | hz
      · exact fun h => ltS_irr _ (ltS_trans hxy h)
      · exact h.1 z hz
    · rename_i hxy
      rw [cmpS_lt] at hxy
      rw [List.pairwise_cons, List.pairwise_cons]
      refine ⟨fun z hz => ?_, h⟩
      rcases List.mem_cons.1 hz with rfl | hz
      · exact hxy
      · exact leS_trans hxy (h.1 z hz)
theorem sortS_sorted : ∀ l : List F.Sp, (F.sortS l).Pairwise leS
  | [] => .nil
  | x :: r => insS_sorted x _ (sortS_sorted r)
theorem sortedS_one {l m : List F.Sp} (hl : l.Pairwise leS) (hm : m.Pairwise leS) (h : l.Perm m) : l = m :=
  List.Perm.eq_of_pairwise (le := leS) (fun a b _ _ h1 h2 => ltS_tri a b h2 h1) hl hm h
theorem sortS_eq (l : List F.Sp) : (l.mergeSort fun x y => !(ltOf F.cmpS) y x) = F.sortS l := by
  refine sortedS_one ?_ (sortS_sorted l) ((List.mergeSort_perm l _).trans (sortS_perm l).symm)
  have hb : ∀ a b : F.Sp, (!(ltOf F.cmpS) b a) = true ↔ leS a b := fun a b => by
    unfold ltOf leS
    rw [Bool.not_eq_true', decide_eq_false_iff_not, cmpS_lt]
  have := List.pairwise_mergeSort (le := fun x y : F.Sp => !(ltOf F.cmpS) y x) (fun a b c h1 h2 => (hb a c).2 (leS_trans ((hb a b).1 h1) ((hb b c).1 h2))) (fun a b => by
    rw [Bool.or_eq_true, hb, hb]
    by_cases e : F.ltS b a
    · exact .inr fun h => ltS_irr _ (ltS_trans e h)
    · exact .inl e) l
  exact this.imp fun h => (hb _ _).1 h
/-! the call -/
theorem grow_of {w w' : World} (h : Blw w w') : ∃ q os', w' = grow (w.drewN q) os' := by
  refine ⟨w'.drawn - w.drawn, w'.heap.extract w.heap.size w'.heap.size, ?_⟩
  obtain ⟨⟨h1, h2, h3, h4, h5⟩, h6⟩ := h
  have hh : w'.heap = w.heap ++ w'.heap.extract w.heap.size w'.heap.size := by
    apply Array.ext_getElem?
    intro k
    by_cases hk : k < w.heap.size
    · rw [Array.getElem?_append_left hk, h5 k hk]
    · rw [Array.getElem?_append_right (by omega), Array.getElem?_extract]
      split
      · congr 1; omega
      · rw [Array.getElem?_eq_none (by omega)]
  have hd : w'.drawn = w.drawn + (w'.drawn - w.drawn) := by omega
  cases w'
  cases w
  simp only [grow, World.drewN] at *
  subst h1 h2 h3
  rw [← hh, ← hd]
theorem cmpS_call (x y : F.Sp) (W : World) : Calls Try.prog 41 (#[.agg (encS x).toArray, .agg (encS y).toArray] ++ #[]) W fun e w' => e = .returned (.int .i64 (F.cmpS x y)) ∧ ∃ q os', w' = grow (W.drewN q) os' := by
  have G : Sym.Good (cod := cod) (fun _ => ⟨0, 0, 0, .tuple #[]⟩) [] W (newIn W) := ⟨fun h o ho => by simp at ho, fun h h' o o' b _ ho => by simp at ho⟩
  have sc : ∀ z : F.Sp, vrel (fun _ => ⟨0, 0, 0, .tuple #[]⟩) 0 (.agg ((cod 2).enc z)) (.agg (encS z).toArray) := fun z => ⟨_, rfl, scalars_rel rfl⟩
  refine (cmpS_sound.calls [.agg ((cod 2).enc x), .agg ((cod 2).enc y)] [] _ W [.agg (encS x).toArray, .agg (encS y).toArray] (.c (.int .i64 (F.cmpS x y))) [] rfl G (.cons (sc x) (.cons (sc y) .nil)) ?_).mono ?_
  · exact rfl
  · rintro e w' ⟨v, env', rfl, _, hv, _, hb⟩
    have : v = .int .i64 (F.cmpS x y) := hv
    rw [this]
    exact ⟨rfl, grow_of hb⟩
theorem sortS_call (b cap : Nat) (l : List F.Sp) (w : World) (hm : l.length ≤ 1000000) (hr : RowAt w b (vals (cod 2) l)) :
    Calls Try.prog 66 (Value.slice (.some ⟨b, 0, Option.none⟩) l.length cap :: fnVals [41]).toArray w fun e w' => e = .returned (.tuple #[]) ∧ ∃ (n : Nat) (os : Array Obj) (D : Array Value), D.toList.map id = vals (cod 2) (F.sortS l) ∧ w' = grow (putRow id (Sort.ahead w n) b 0 D) os := by
  have hH : HoldsK encS 6 w b 0 l.toArray := by
    refine RowAt.holds (e' := id) (D := flatK encS 6 l.toArray) ?_
    rw [List.map_id, flatK_vals]
    exact hr
  have hcon := AnyQ.slices_SortFunc_total laysSpot 6 Try.isAgg81 Try.sizeOf81 encS encS_len (fun x v hv => by
    change v ∈ [Value.int .i64 x.1, .int .i64 x.2.1, .int .i64 x.2.2.1, .int .i64 x.2.2.2.1, .int .i64 x.2.2.2.2.1, .int .i64 x.2.2.2.2.2] at hv
    simp only [List.mem_cons, List.not_mem_nil, or_false] at hv
    rcases hv with rfl | rfl | rfl | rfl | rfl | rfl <;> rfl) F.cmpS swoS 41 #[] b 0 cap l.toArray w cmpS_sound.enters (fun m os dk _ x y => cmpS_call x y _) hH hr.lt (by simp; omega) (fun x y h1 h2 => by
    simp only [ltOf, decide_eq_false_iff_not, cmpS_lt] at h1 h2
    exact ltS_tri x y h1 h2)
  refine hcon.mono ?_
  rintro e w' ⟨rfl, n, os, rfl⟩
  refine ⟨rfl, n, os, flatK encS 6 (F.sortS l).toArray, by rw [List.map_id, flatK_vals], ?_⟩
  rw [show l.toArray.toList = l from rfl, sortS_eq]
  rfl
theorem sortS_none (p : Option Addr) (cap : Nat) (w : World) : Calls Try.prog 66 (Value.slice p 0 cap :: fnVals [41]).toArray w fun e w' => e = .returned (.tuple #[]) ∧ w' = w :=
  AnyF.slices_SortFunc_none laysSpot p cap _ w
theorem sortS_perms : Perms Try.prog cod 66 2 [41] F.sortS Value id where
  enters := enters_fn Try.func66 rfl rfl
  len := sortS_len
  none := sortS_none
  some := fun b cap l w _ hm hr => sortS_call b cap l w hm hr
noncomputable def s_sortS : Summ cod := s_perm 2 [41] F.sortS
theorem sortS_sound : SoundIK Try.prog cod 66 true s_sortS := perm_sound sortS_perms
end Go.Proofs.Ytbkpgpkeecnjpaa
