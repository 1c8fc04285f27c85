/- slices.SortFunc at contacts by flight, out of the library's contract, where no flight comes twice. -/
import Derived.Test.YtkfkfihjdohjfaaBd43
namespace Go.Proofs.Ytkfkfihjdohjfaa
open Sym Go.RowKit Go.Sort
set_option maxHeartbeats 4000000
def F.cmpN (x y : F.Co) : Int := F.scmp x.1 y.1
theorem cmpN_lt {x y : F.Co} : F.cmpN x y < 0 ↔ F.ltN x y = true := scmp_lt
theorem swoN : SWO (ltOf F.cmpN) where
  irrefl := fun x => by simp only [ltOf, decide_eq_false_iff_not, cmpN_lt]; exact ltN_irr x
  trans := fun x y z h1 h2 => by
    simp only [ltOf, decide_eq_true_eq, cmpN_lt] at *
    exact ltN_trans h1 h2
  ntrans := fun x y z h1 h2 => by
    simp only [ltOf, decide_eq_false_iff_not, cmpN_lt] at *
    exact leN_trans h2 h1
theorem sortN_eq {l : List F.Co} (h : F.dstC l) : F.vsC (l.attach.mergeSort fun x y => !(ltOf fun a b : F.MemC l => F.cmpN a.1 b.1) y x) = F.sortN l := by
  unfold F.vsC
  have hp : ((l.attach.mergeSort fun x y => !(ltOf fun a b : F.MemC l => F.cmpN a.1 b.1) y x).map Subtype.val).Perm l := by
    have := (List.mergeSort_perm l.attach fun x y => !(ltOf fun a b : F.MemC l => F.cmpN a.1 b.1) y x).map Subtype.val
    rwa [List.attach_map_subtype_val] at this
  refine sortedN_one (dstC_perm hp h) ?_ (sortN_sorted l) (hp.trans (sortN_perm l).symm)
  have hb : ∀ a b : F.MemC l, (!(ltOf fun a b : F.MemC l => F.cmpN a.1 b.1) b a) = true ↔ leN a.1 b.1 := fun a b => by
    unfold ltOf leN
    rw [Bool.not_eq_true', decide_eq_false_iff_not, cmpN_lt]
  have := List.pairwise_mergeSort (le := fun x y : F.MemC l => !(ltOf fun a b : F.MemC l => F.cmpN a.1 b.1) y x) (fun a b c h1 h2 => (hb a c).2 (leN_trans ((hb a b).1 h1) ((hb b c).1 h2))) (fun a b => by
    rw [Bool.or_eq_true, hb, hb]
    by_cases e : F.ltN b.1 a.1 = true
    · exact .inr fun h => ltN_irr _ (ltN_trans e h)
    · exact .inl e) l.attach
  rw [List.pairwise_map]
  exact this.imp fun h => (hb _ _).1 h
theorem ncmp_call (x y : F.Co) (W : World) : Calls Try.prog 32 (#[.agg (encC x).toArray, .agg (encC y).toArray] ++ #[]) W fun e w' => e = .returned (.int .i64 (F.cmpN x y)) ∧ ∃ q os', w' = grow (W.drewN q) os' := by
  have G : Sym.Good (cod := cod) (fun _ => ⟨0, 0, 0, .tuple #[]⟩) [] W (newIn W) := ⟨fun h o ho => by simp at ho, fun h h' o o' b _ ho => by simp at ho, by intro p hp; cases hp⟩
  have sc : ∀ z : F.Co, vrel (fun _ => ⟨0, 0, 0, .tuple #[]⟩) 0 (.agg ((cod 5).enc z)) (.agg (encC z).toArray) := fun z => ⟨_, rfl, scalars_rel rfl⟩
  refine (ncmp_sound.calls [.agg ((cod 5).enc x), .agg ((cod 5).enc y)] [] _ W [.agg (encC x).toArray, .agg (encC y).toArray] (.c (.int .i64 (F.cmpN x y))) [] rfl G (.cons (sc x) (.cons (sc y) .nil)) ?_).mono ?_
  · exact rfl
  · rintro e w' ⟨v, env', rfl, _, hv, _, hb⟩
    have : v = .int .i64 (F.cmpN x y) := hv
    rw [this]
    exact ⟨rfl, grow_ofC hb⟩
theorem sortN_call (b cap : Nat) (l : List F.Co) (w : World) (hne : l ≠ []) (ho : F.dstC l) (hm : l.length ≤ 1000000) (hr : RowAt w b (vals (cod 5) l)) :
    Calls Try.prog 31 (Value.slice (.some ⟨b, 0, Option.none⟩) l.length cap :: fnVals [32]).toArray w fun e w' => e = .returned (.tuple #[]) ∧ ∃ (n : Nat) (os : Array Obj) (D : Array Value), D.toList.map id = vals (cod 5) (F.sortN l) ∧ w' = grow (putRow id (Sort.ahead w n) b 0 D) os := by
  obtain ⟨x0, hx0⟩ := List.exists_mem_of_ne_nil l hne
  letI : Inhabited (F.MemC l) := ⟨⟨x0, hx0⟩⟩
  have hH : HoldsK (fun x : F.MemC l => encC x.1) 3 w b 0 l.attach.toArray := by
    refine RowAt.holds (e' := id) (D := flatK (fun x : F.MemC l => encC x.1) 3 l.attach.toArray) ?_
    rw [List.map_id, flatC_vals]
    exact hr
  have hcon := AnyQ.slices_SortFunc_total laysCont 3 Try.isAgg56 Try.sizeOf56 (fun x : F.MemC l => encC x.1) (fun x => encC_len x.1) (fun x v hv => by
    change v ∈ [Value.string ⟨x.1.1.toArray⟩, .int .i64 x.1.2.1, .int .i64 x.1.2.2] at hv
    simp only [List.mem_cons, List.not_mem_nil, or_false] at hv
    rcases hv with rfl | rfl | rfl <;> rfl) (fun x y : F.MemC l => F.cmpN x.1 y.1) ⟨fun x => swoN.irrefl x.1, fun x y z => swoN.trans x.1 y.1 z.1, fun x y z => swoN.ntrans x.1 y.1 z.1⟩ 32 #[] b 0 cap l.attach.toArray w ncmp_sound.enters (fun m os dk _ x y => ncmp_call x.1 y.1 _) hH hr.lt (by simp; omega) (fun x y h1 h2 => by
    simp only [ltOf, decide_eq_false_iff_not, cmpN_lt] at h1 h2
    exact Subtype.ext (dstC_one ho x.2 y.2 (ltN_tri h1 h2)))
  have hs : l.attach.toArray.size = l.length := by simp
  rw [hs] at hcon
  refine hcon.mono ?_
  rintro e w' ⟨rfl, n, os, rfl⟩
  refine ⟨rfl, n, os, flatK (fun x : F.MemC l => encC x.1) 3 (l.attach.mergeSort fun x y => !(ltOf fun a b : F.MemC l => F.cmpN a.1 b.1) y x).toArray, by rw [List.map_id, flatC_map, sortN_eq ho], ?_⟩
  rfl
theorem sortN_none (p : Option Addr) (cap : Nat) (w : World) : Calls Try.prog 31 (Value.slice p 0 cap :: fnVals [32]).toArray w fun e w' => e = .returned (.tuple #[]) ∧ w' = w :=
  AnyF.slices_SortFunc_none laysCont p cap _ w
theorem sortN_perms : PermsP Try.prog cod 31 5 [32] F.sortN F.dstC Value id where
  enters := enters_fn Try.func31 rfl rfl
  len := sortN_len
  none := sortN_none
  some := fun b cap l w hne ho hm hr => sortN_call b cap l w hne ho hm hr
noncomputable def s_sortN : Summ cod := s_permP 5 [32] F.sortN F.dstC
theorem sortN_sound : SoundIK Try.prog cod 31 true s_sortN := permP_sound sortN_perms
end Go.Proofs.Ytkfkfihjdohjfaa
