/- moved as a summary that leaves the row where it is. -/
import Derived.Test.YtkfkfihjdohjfaaBd39
import Derived.Test.YtkfkfihjdohjfaaSym34
namespace Go.Proofs.Ytkfkfihjdohjfaa
open Sym Go.RowKit RowW
set_option maxHeartbeats 4000000
theorem getD_mem' {α : Type} {l : List α} {n : Nat} (d : α) (h : n < l.length) : l.getD n d ∈ l := by
  rw [List.getD_eq_getElem?_getD, List.getElem?_eq_getElem h]
  exact List.getElem_mem h
/-- The row's cells with one of them written. -/
theorem vals_bay (l : List F.St) {j : Nat} (h : j < l.length) (b : Int) : (vals (cod 1) l).take (j * 5 + 4) ++ ([Value.int .i64 b] ++ (vals (cod 1) l).drop (j * 5 + 4 + 1)) = vals (cod 1) (l.set j (F.inBay (l.getD j F.st0) b)) := by
  have := vals_splice (cod 1) l j 4 [.int .i64 b] h (show 4 + 1 ≤ 5 by decide) rfl
  rw [← List.append_assoc]
  exact this.symm
theorem cell_bay {w : World} {g cap : Nat} {cur : Array Value} {ty : TypeId} (l : List F.St) {j : Nat} (h : j < l.length) (hg : w.heap[g]? = some (.cells cur ty (0, 0))) (htk : cur.toList.take (l.length * 5) = vals (cod 1) l) : w.cell? ⟨g, j * 5 + 4, none⟩ = some (.int .i64 (l.getD j F.st0).2.2.2.2) := by
  rw [(cell_at hg _).1]
  have hd : (vals (cod 1) l).drop (j * 5) = ((cod 1).enc (l.getD j F.st0)).map Cell.val ++ (vals (cod 1) l).drop (j * 5 + 5) := vals_drop (cod 1) l j h
  have e1 : (vals (cod 1) l)[j * 5 + 4]? = some (.int .i64 (l.getD j F.st0).2.2.2.2) := by
    have e2 : (vals (cod 1) l)[j * 5 + 4]? = ((vals (cod 1) l).drop (j * 5))[4]? := by rw [List.getElem?_drop]
    rw [e2, hd]
    rfl
  rw [← htk, List.getElem?_take_of_lt (by omega), Array.getElem?_toList] at e1
  exact e1
theorem mv_core (l : List F.St) (k b n : Int) (env : Env) (w : World) (v0 : Value) (G : Sym.Good env ([.own 1 l 26] : Heap cod) w (mineOf ([.own 1 l 26] : Heap cod) env w)) (hk : k < (l.length : Int)) (hby : F.byO l) (hval : v0 = (env 0).val) (A : Option Addr) (c : Nat) (hA : v0 = .slice A l.length c) :
    Calls Try.prog 14 [v0, .int .i64 k, .int .i64 b, .int .i64 n].toArray w fun e w' => ∃ v env', e = .returned v ∧ (∀ i, i < ([.own 1 l 26] : Heap cod).length → true = true ∨ (Sym.getObj ([.own 1 l 26] : Heap cod) i).isOwn = false → env' i = env i) ∧ vrel env' ([.own 1 (F.mvL l k b n) 26] : Heap cod).length (.c (.int .i64 (F.mvE l k b n))) v ∧
            (∀ i o, ([.own 1 (F.mvL l k b n) 26] : Heap cod)[i]? = some o → Live ([.own 1 l 26] : Heap cod) i → objRel env' ([.own 1 (F.mvL l k b n) 26] : Heap cod).length (env' i) w' (mineOf ([.own 1 l 26] : Heap cod) env w) o) ∧
            (∀ i j o o' b', i ≠ j → ([.own 1 (F.mvL l k b n) 26] : Heap cod)[i]? = some o → ([.own 1 (F.mvL l k b n) 26] : Heap cod)[j]? = some o' → Live ([.own 1 l 26] : Heap cod) i → Live ([.own 1 l 26] : Heap cod) j → o.wr = true → o.has (env' i) b' → ¬ o'.has (env' j) b') ∧ Kin (mineOf ([.own 1 l 26] : Heap cod) env w) w w' := by
  have one : ∀ {o : HObj cod} {i : Nat} {o' : HObj cod}, [o][i]? = some o' → i = 0 ∧ o' = o := by
    intro o i o' hi
    cases i with
    | zero => simp at hi; exact ⟨rfl, hi.symm⟩
    | succ i => simp at hi
  have ob := G.obj 0 (.own 1 l 26) (by simp)
  -- nothing written
  have quiet : ∀ e : Int, e ≠ 0 → F.mvE l k b n = e → Calls Try.prog 14 #[v0, .int .i64 k, .int .i64 b, .int .i64 n] w (fun x w' => x = .returned (.int .i64 e) ∧ w' = w) →
      Calls Try.prog 14 [v0, .int .i64 k, .int .i64 b, .int .i64 n].toArray w fun e w' => ∃ v env', e = .returned v ∧ (∀ i, i < ([.own 1 l 26] : Heap cod).length → true = true ∨ (Sym.getObj ([.own 1 l 26] : Heap cod) i).isOwn = false → env' i = env i) ∧ vrel env' ([.own 1 (F.mvL l k b n) 26] : Heap cod).length (.c (.int .i64 (F.mvE l k b n))) v ∧
        (∀ i o, ([.own 1 (F.mvL l k b n) 26] : Heap cod)[i]? = some o → Live ([.own 1 l 26] : Heap cod) i → objRel env' ([.own 1 (F.mvL l k b n) 26] : Heap cod).length (env' i) w' (mineOf ([.own 1 l 26] : Heap cod) env w) o) ∧
        (∀ i j o o' b', i ≠ j → ([.own 1 (F.mvL l k b n) 26] : Heap cod)[i]? = some o → ([.own 1 (F.mvL l k b n) 26] : Heap cod)[j]? = some o' → Live ([.own 1 l 26] : Heap cod) i → Live ([.own 1 l 26] : Heap cod) j → o.wr = true → o.has (env' i) b' → ¬ o'.has (env' j) b') ∧ Kin (mineOf ([.own 1 l 26] : Heap cod) env w) w w' := by
    intro e he eE hc
    have eL : F.mvL l k b n = l := by unfold F.mvL; rw [if_neg (by rw [eE]; exact he)]
    rw [eE, eL]
    refine hc.mono ?_
    rintro x w' ⟨rfl, rfl⟩
    refine ⟨_, env, rfl, fun _ _ _ => rfl, rfl, fun i o ho _ => ?_, fun i j o o' b' hne ho ho' => ?_, Kin.refl _ _⟩
    · obtain ⟨rfl, rfl⟩ := one ho
      exact ob
    · exact absurd ((one ho).1.trans (one ho').1.symm) hne
  obtain ⟨o1, o2, o3, o4, o5⟩ := ob
  cases c1 : F.inb b 0 3 with
  | false =>
    have hb : ¬ (0 ≤ b ∧ b ≤ 3) := by
      unfold F.inb at c1
      simp only [Bool.and_eq_false_iff, decide_eq_false_iff_not] at c1
      omega
    refine quiet 4 (by decide) (by unfold F.mvE; rw [c1]; rfl) ?_
    rw [hA]
    exact moved_four A _ c k b n w hb
  | true =>
    have hb : 0 ≤ b ∧ b ≤ 3 := by
      unfold F.inb at c1
      simpa using c1
    by_cases c2 : k < 0
    · refine quiet 8 (by decide) (by unfold F.mvE; rw [c1, if_pos rfl, if_pos c2]) ?_
      rw [hA]
      exact moved_eight A _ c k b n w hb c2
    obtain ⟨j, rfl⟩ : ∃ j : Nat, k = j := ⟨k.toNat, by omega⟩
    have hj : j < l.length := by omega
    rcases o3.2 with ⟨e, hz⟩ | ⟨g, cap, cur, e, hb0, hgc, hnc, hcm, hcs, htk⟩
    · have hz : l.length = 0 := hz
      omega
    have hcell := cell_bay (cap := cap) l hj hgc htk
    have hfr := (cell_at hgc (j * 5 + 4)).2
    have hxb := hby (l.getD j F.st0) (getD_mem' _ hj)
    have ev : v0 = .slice (some ⟨g, 0, none⟩) l.length cap := hval.trans e
    cases hw : F.wayO (10 * F.kb l (j : Int) + b) with
    | false =>
      have hw' : ¬ (10 * (l.getD j F.st0).2.2.2.2 + b = 1) ∧ ¬ (10 * (l.getD j F.st0).2.2.2.2 + b = 12) ∧ ¬ (10 * (l.getD j F.st0).2.2.2.2 + b = 13) ∧ ¬ (10 * (l.getD j F.st0).2.2.2.2 + b = 21) ∧ ¬ (10 * (l.getD j F.st0).2.2.2.2 + b = 23) := by
        unfold F.wayO F.kb at hw
        simpa using hw
      refine quiet 11 (by decide) (by unfold F.mvE; rw [c1, if_pos rfl, if_neg c2, hw]; rfl) ?_
      rw [ev]
      exact moved_eleven g _ cap j b n _ w hb hj hxb hcell hw'
    | true =>
      have hw' : 10 * (l.getD j F.st0).2.2.2.2 + b = 1 ∨ 10 * (l.getD j F.st0).2.2.2.2 + b = 12 ∨ 10 * (l.getD j F.st0).2.2.2.2 + b = 13 ∨ 10 * (l.getD j F.st0).2.2.2.2 + b = 21 ∨ 10 * (l.getD j F.st0).2.2.2.2 + b = 23 := by
        unfold F.wayO F.kb at hw
        simpa using hw
      by_cases c3 : n = 16
      · subst c3
        refine quiet 9 (by decide) (by unfold F.mvE; rw [c1, if_pos rfl, if_neg c2, hw, if_pos rfl, if_pos rfl]) ?_
        rw [ev]
        exact moved_nine g _ cap j b _ w hb hj hxb hcell hw'
      · have eE : F.mvE l (j : Int) b n = 0 := by unfold F.mvE; rw [c1, if_pos rfl, if_neg c2, hw, if_pos rfl, if_neg c3]
        have eL : F.mvL l (j : Int) b n = l.set j (F.inBay (l.getD j F.st0) b) := by unfold F.mvL; rw [if_pos eE]; rfl
        have hM : mineOf ([.own 1 l 26] : Heap cod) env w g := .inr ⟨0, _, rfl, rfl, by simp [HObj.has, e, Value.ownBlock]⟩
        rw [eE, eL, ev]
        refine (moved_zero g _ cap j b n _ w hb hj hxb hcell hfr hw' (by simpa using c3)).mono ?_
        rintro x w' ⟨rfl, rfl⟩
        have hs : w.setCell ⟨g, j * 5 + 4, none⟩ (.int .i64 b) = w.setCells g (j * 5 + 4) [.int .i64 b] := rfl
        rw [hs]
        have H1 := heap_setCells [.int .i64 b] (j * 5 + 4) w cur hgc
        have S1 := setCells_same g [.int .i64 b] (j * 5 + 4) w
        have hsz : (cod 1).size = 5 := rfl
        rw [hsz] at hcs htk
        have hle : l.length * 5 ≤ cap * 5 := Nat.mul_le_mul_right _ hnc
        refine ⟨_, env, rfl, fun _ _ _ => rfl, rfl, fun i o ho _ => ?_, fun i j o o' b' hne ho ho' => ?_, ⟨S1.1, S1.2.1, S1.2.2.1, by rw [S1.2.2.2.1]; exact Nat.le_refl _, fun x hx hxm => ?_, dl_mono (by rw [S1.2.2.2.2]; exact Nat.le_refl _)⟩⟩
        · obtain ⟨rfl, rfl⟩ := one ho
          refine ⟨o1, o2, ⟨(vals_len (cod 1) _), .inr ⟨g, cap, _, ?_, hb0, H1, ?_, hcm, by rw [ovl_size]; exact hcs, ?_⟩⟩, o4, o5⟩
          · rw [e]
            congr 1
            exact (List.length_set).symm
          · exact Nat.le_trans (Nat.le_of_eq List.length_set) hnc
          · rw [ovl_list _ _ _ (by rw [hcs]; simp only [List.length_cons, List.length_nil]; omega)]
            have hn5 : (l.set j (F.inBay (l.getD j F.st0) b)).length * (cod 1).size = l.length * 5 := congrArg (· * 5) List.length_set
            refine Eq.trans ((congrArg (fun m => List.take m _) hn5).trans ?_) (vals_bay l hj b)
            simp only [List.length_cons, List.length_nil, Nat.zero_add]
            have l1 : (cur.toList.take (j * 5 + 4)).length = j * 5 + 4 := by rw [List.length_take, Array.length_toList, hcs]; omega
            have hj2 : j * 5 + 4 ≤ l.length * 5 := by omega
            have t1 : cur.toList.take (j * 5 + 4) = (vals (cod 1) l).take (j * 5 + 4) := by rw [← htk, List.take_take]; exact (congrArg (fun m => List.take m cur.toList) (Nat.min_eq_left hj2)).symm
            have t2 : (vals (cod 1) l).drop (j * 5 + 4 + 1) = (cur.toList.drop (j * 5 + 4 + 1)).take (l.length * 5 - (j * 5 + 4 + 1)) := by rw [← htk, List.drop_take]; rfl
            have t0 : List.take (l.length * 5) (List.take (j * 5 + 4) cur.toList) = List.take (j * 5 + 4) cur.toList := by rw [List.take_take, Nat.min_eq_right (by omega)]
            rw [List.take_append, l1, t0, t1, t2]
            congr 1
            simp only [List.singleton_append]
            rw [show l.length * 5 - (j * 5 + 4) = (l.length * 5 - (j * 5 + 4 + 1)) + 1 by omega, List.take_succ_cons]
        · exact absurd ((one ho).1.trans (one ho').1.symm) hne
        · exact heap_setCells_ne (fun q => hxm (by rw [q]; exact hM)) _ _ _
noncomputable def s_smvK : Summ cod := s_smvd
theorem smvK_sound : SoundIK Try.prog cod 14 true s_smvK := by
  refine ⟨smvd_sound.enters, fun args H env w vs r H' G ha hg => ?_⟩
  unfold s_smvK s_smvd at hg
  split at hg
  · rename_i q k b n o0
    split at hg
    · rename_i l hx0
      cases asOwn_spec hx0
      obtain ⟨tt, ⟨hk, hby⟩, hg⟩ := hg
      cases tt
      cases hg
      cases ha with
      | @cons _ v0 _ vs hx hxs =>
      cases hxs with
      | @cons _ v1 _ vs h1 h1s =>
      cases h1s with
      | @cons _ v2 _ vs h2 h2s =>
      cases h2s with
      | @cons _ v3 _ vs h3 h3s =>
      cases h3s
      have h1' : v1 = .int .i64 k := h1
      have h2' : v2 = .int .i64 b := h2
      have h3' : v3 = .int .i64 n := h3
      subst h1' h2' h3'
      obtain ⟨_, hval, A, c, hA, _⟩ := hx
      exact mv_core l k b n env w v0 G hk hby hval A c hA
    · exact hg.elim
  · exact hg.elim
end Go.Proofs.Ytkfkfihjdohjfaa
