/- slices.Sort at ints, out of the library's contract. -/
import Derived.Test.YtbkpgpkeecnjpaaFa
import Derived.Test.YtbkpgpkeecnjpaaSym26
import Derived.Test.YtbkpgpkeecnjpaaShP
namespace Go.Proofs.Ytbkpgpkeecnjpaa
open Sym Go.RowKit Go.Sort
theorem vals0 : ∀ l : List Int, vals (cod 0) l = l.map (Value.int .i64)
  | [] => rfl
  | a :: l => congrArg (Value.int .i64 a :: ·) (vals0 l)
def F.ins (x : Int) : List Int → List Int
  | [] => [x]
  | y :: r => if x ≤ y then x :: y :: r else y :: F.ins x r
def F.sortI : List Int → List Int
  | [] => []
  | x :: r => F.ins x (F.sortI r)
theorem ins_perm (x : Int) : ∀ l : List Int, (F.ins x l).Perm (x :: l)
  | [] => .refl _
  | y :: r => by
    unfold F.ins
    split
    · exact .refl _
    · exact ((ins_perm x r).cons y).trans (.swap x y r)
theorem sortI_perm : ∀ l : List Int, (F.sortI l).Perm l
  | [] => .refl _
  | x :: r => (ins_perm x (F.sortI r)).trans ((sortI_perm r).cons x)
theorem ins_sorted (x : Int) : ∀ l : List Int, l.Pairwise (· ≤ ·) → (F.ins x l).Pairwise (· ≤ ·)
  | [], _ => by simp [F.ins]
  | y :: r, h => by
    rw [List.pairwise_cons] at h
    unfold F.ins
    split
    · rename_i hxy
      rw [List.pairwise_cons, List.pairwise_cons]
      refine ⟨fun z hz => ?_, h⟩
      rcases List.mem_cons.1 hz with rfl | hz
      · exact hxy
      · have := h.1 z hz
        omega
    · rename_i hxy
      rw [List.pairwise_cons]
      refine ⟨fun z hz => ?_, ins_sorted x r h.2⟩
      have := (ins_perm x r).mem_iff.1 hz
      rcases List.mem_cons.1 this with rfl | hz
      · omega
      · exact h.1 z hz
theorem sortI_sorted : ∀ l : List Int, (F.sortI l).Pairwise (· ≤ ·)
  | [] => .nil
  | x :: r => ins_sorted x _ (sortI_sorted r)
theorem sorted_one {l m : List Int} (hl : l.Pairwise (· ≤ ·)) (hm : m.Pairwise (· ≤ ·)) (h : l.Perm m) : l = m :=
  List.Perm.eq_of_pairwise (le := (· ≤ ·)) (fun a b _ _ h1 h2 => Int.le_antisymm h1 h2) hl hm h
theorem sortI_eq (l : List Int) : (l.mergeSort fun x y => decide (x ≤ y)) = F.sortI l := by
  refine sorted_one ?_ (sortI_sorted l) ((List.mergeSort_perm l _).trans (sortI_perm l).symm)
  have := List.pairwise_mergeSort (le := fun x y : Int => decide (x ≤ y)) (fun a b c h1 h2 => by simp only [decide_eq_true_eq] at *; omega) (fun a b => by simp only [Bool.or_eq_true, decide_eq_true_eq]; omega) l
  exact this.imp fun h => of_decide_eq_true h
theorem sortI_len (l : List Int) : (F.sortI l).length = l.length := (sortI_perm l).length_eq
theorem sortI_call (b cap : Nat) (l : List Int) (w : World) (hm : l.length ≤ 1000000) (hr : RowAt w b (vals (cod 0) l)) :
    Calls Try.prog 58 (Value.slice (.some ⟨b, 0, Option.none⟩) l.length cap :: fnVals []).toArray w fun e w' => e = .returned (.tuple #[]) ∧ ∃ (n : Nat) (os : Array Obj) (D : Array Int), D.toList.map (Value.int .i64) = vals (cod 0) (F.sortI l) ∧ w' = grow (putRow (Value.int .i64) (Sort.ahead w n) b 0 D) os := by
  have hr' : RowAt w b (l.toArray.toList.map (Value.int .i64)) := by rw [vals0 l] at hr; exact hr
  refine (AnyM.slices_Sort_int laysSort b 0 cap l w hr'.holds hr.lt (by omega)).mono ?_
  rintro e w' ⟨rfl, n, os, rfl⟩
  exact ⟨rfl, n, os, (F.sortI l).toArray, (vals0 (F.sortI l)).symm, by rw [sortI_eq]⟩
theorem sortI_perms : Perms Try.prog cod 58 0 [] F.sortI Int (Value.int .i64) where
  enters := enters_fn Try.func58 rfl rfl
  len := sortI_len
  none := fun p cap w => AnyM.slices_Sort_int_none laysSort p cap w
  some := fun b cap l w _ hm hr => sortI_call b cap l w hm hr
noncomputable def s_sortI : Summ cod := s_perm 0 [] F.sortI
theorem sortI_sound : SoundIK Try.prog cod 58 true s_sortI := perm_sound sortI_perms
end Go.Proofs.Ytbkpgpkeecnjpaa
