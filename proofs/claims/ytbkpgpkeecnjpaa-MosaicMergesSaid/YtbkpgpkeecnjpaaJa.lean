/- Part of a claim: lemmas on the way to its theorem; each states its own conditions. -/
import Derived.Test.YtbkpgpkeecnjpaaHx
namespace Go.Proofs.Ytbkpgpkeecnjpaa
open Sym Go.RowKit Go.Sort
noncomputable section
set_option maxRecDepth 100000
set_option maxHeartbeats 4000000



namespace F
def cmpP (a b : Sp) : Int := orF [cmpI a.2.1 b.2.1, cmpI a.1 b.1, cmpI a.2.2.1 b.2.2.1, cmpI a.2.2.2.1 b.2.2.2.1, cmpI a.2.2.2.2.1 b.2.2.2.2.1, cmpI a.2.2.2.2.2 b.2.2.2.2.2]
def ltP (a b : Sp) : Prop := a.2.1 < b.2.1 ∨ (a.2.1 = b.2.1 ∧ (a.1 < b.1 ∨ (a.1 = b.1 ∧ (a.2.2.1 < b.2.2.1 ∨ (a.2.2.1 = b.2.2.1 ∧ (a.2.2.2.1 < b.2.2.2.1 ∨ (a.2.2.2.1 = b.2.2.2.1 ∧ (a.2.2.2.2.1 < b.2.2.2.2.1 ∨ (a.2.2.2.2.1 = b.2.2.2.2.1 ∧ a.2.2.2.2.2 < b.2.2.2.2.2)))))))))
end F


def cuts_cmpP : Cuts := []

theorem cmpP_t0 (a1 a2 a3 a4 a5 a6 : Int) (b1 b2 b3 b4 b5 b6 : Int) : symF C_cmpS cuts_cmpP Try.f60.results.toList 0 400 [.code (codeOf Try.f60)] ⟨argsS Try.f60 [.agg [.int .i64 a1, .int .i64 a2, .int .i64 a3, .int .i64 a4, .int .i64 a5, .int .i64 a6], .agg [.int .i64 b1, .int .i64 b2, .int .i64 b3, .int .i64 b4, .int .i64 b5, .int .i64 b6]], ([] : Heap cod)⟩ =
.need (((0 = 0 ∧ 6 = 6) ∧ (6 : Nat) ≤ 1000)) (
.ret (.fin (.c (.int .i64 (F.orF [F.cmpI a2 b2, F.cmpI a1 b1, F.cmpI a3 b3, F.cmpI a4 b4, F.cmpI a5 b5, F.cmpI a6 b6]))) [])) := by kernel_rfl



theorem cmpP_run (a1 a2 a3 a4 a5 a6 : Int) (b1 b2 b3 b4 b5 b6 : Int) (b0 : Base) (hb : b0.n = 0)  : Sym.Runs Try.prog b0 [.code (codeOf Try.f60)] ⟨argsS Try.f60 [.agg [.int .i64 a1, .int .i64 a2, .int .i64 a3, .int .i64 a4, .int .i64 a5, .int .i64 a6], .agg [.int .i64 b1, .int .i64 b2, .int .i64 b3, .int .i64 b4, .int .i64 b5, .int .i64 b6]], ([] : Heap cod)⟩ (Sym.Ends Try.prog Try.f60 0 (.c (.int .i64 (F.cmpP (a1, a2, a3, a4, a5, a6) (b1, b2, b3, b4, b5, b6)))) []) := by
  refine Runs.go (cfg := C_cmpS) L_cmpS_ok mixed cuts_cmpP 400 hb (cmpP_t0 a1 a2 a3 a4 a5 a6 b1 b2 b3 b4 b5 b6) ?_
  simp only [T.wp, T.wp_cond, Aft, Int.ofNat_eq_natCast, decide_eq_true_eq, and_true, true_and, Nat.zero_add, Bool.not_eq_true', decide_eq_false_iff_not]
  exact ⟨by decide, rfl⟩



noncomputable def s_cmpP : Summ cod := fun args H => match args, H with
  | [.agg [.int .i64 a1, .int .i64 a2, .int .i64 a3, .int .i64 a4, .int .i64 a5, .int .i64 a6], .agg [.int .i64 b1, .int .i64 b2, .int .i64 b3, .int .i64 b4, .int .i64 b5, .int .i64 b6]], [] => .ret (.c (.int .i64 (F.cmpP (a1, a2, a3, a4, a5, a6) (b1, b2, b3, b4, b5, b6))), [])
  | _, _ => .fail


theorem cmpP_sound : Sound Try.prog cod 60 s_cmpP := sound_runs (cfg := C_cmpS) L_cmpS_ok mixed Try.func60 rfl rfl _ fun args H r news hg b0 hb => by
  unfold s_cmpP at hg
  split at hg
  · skip
    cases hg
    exact cmpP_run _ _ _ _ _ _ _ _ _ _ _ _ b0 hb 
  · exact hg.elim

noncomputable def L_cmpP : Sums cod := (60, .p s_cmpP) :: L_cmpS
noncomputable def C_cmpP : Cfg cod := mkC L_cmpP

theorem L_cmpP_ok : Snd Try.prog cod L_cmpP := .cons cmpP_sound L_cmpS_ok



def F.insP (x : F.Sp) : List F.Sp → List F.Sp
  | [] => [x]
  | y :: r => if F.cmpP y x < 0 then y :: F.insP x r else x :: y :: r
def F.sortP : List F.Sp → List F.Sp
  | [] => []
  | x :: r => F.insP x (F.sortP r)


theorem cmpP_lt (a b : F.Sp) : F.cmpP a b < 0 ↔ F.ltP a b := by
  unfold F.cmpP F.ltP
  simp only [orF_lt, cmpI_lt, cmpI_zero]
  have : ¬ F.orF [] < 0 := by decide
  simp only [this, and_false, or_false]
theorem ltP_trans {a b c : F.Sp} (h1 : F.ltP a b) (h2 : F.ltP b c) : F.ltP a c := by
  unfold F.ltP at *
  omega
theorem ltP_tri (a b : F.Sp) (h1 : ¬ F.ltP a b) (h2 : ¬ F.ltP b a) : a = b := by
  obtain ⟨a1, a2, a3, a4, a5, a6⟩ := a
  obtain ⟨b1, b2, b3, b4, b5, b6⟩ := b
  unfold F.ltP at *
  simp only [Prod.mk.injEq]
  simp only at h1 h2
  omega
theorem ltP_irr (a : F.Sp) : ¬ F.ltP a a := by
  unfold F.ltP
  omega
theorem swoP : SWO (ltOf F.cmpP) where
  irrefl := fun x => by simp only [ltOf, decide_eq_false_iff_not, cmpP_lt]; exact ltP_irr x
  trans := fun x y z h1 h2 => by
    simp only [ltOf, decide_eq_true_eq, cmpP_lt] at *
    exact ltP_trans h1 h2
  ntrans := fun x y z h1 h2 => by
    simp only [ltOf, decide_eq_false_iff_not, cmpP_lt] at *
    intro h
    by_cases e : F.ltP y x
    · exact h2 (by
        by_cases e2 : F.ltP z y
        · exact absurd (ltP_trans e2 (ltP_trans e h)) (ltP_irr _)
        · exact absurd (ltP_trans e h) h2)
    · rw [ltP_tri x y h1 e] at h
      exact h2 h
/-! the sort, by structure -/
theorem insP_perm (x : F.Sp) : ∀ l : List F.Sp, (F.insP x l).Perm (x :: l)
  | [] => .refl _
  | y :: r => by
    unfold F.insP
    split
    · exact ((insP_perm x r).cons y).trans (.swap x y r)
    · exact .refl _
theorem sortP_perm : ∀ l : List F.Sp, (F.sortP l).Perm l
  | [] => .refl _
  | x :: r => (insP_perm x (F.sortP r)).trans ((sortP_perm r).cons x)
theorem sortP_len (l : List F.Sp) : (F.sortP l).length = l.length := (sortP_perm l).length_eq
def leP (a b : F.Sp) : Prop := ¬ F.ltP b a
theorem leP_trans {a b c : F.Sp} (h1 : leP a b) (h2 : leP b c) : leP a c := by
  intro h
  by_cases e : F.ltP b a
  · exact h1 e
  · by_cases e2 : F.ltP a b
    · exact h2 (ltP_trans h e2)
    · rw [ltP_tri a b e2 e] at h
      exact h2 h
theorem insP_sorted (x : F.Sp) : ∀ l : List F.Sp, l.Pairwise leP → (F.insP x l).Pairwise leP
  | [], _ => by simp [F.insP]
  | y :: r, h => by
    rw [List.pairwise_cons] at h
    unfold F.insP
    split
    · rename_i hxy
      rw [cmpP_lt] at hxy
      rw [List.pairwise_cons]
      refine ⟨fun z hz => ?_, insP_sorted x r h.2⟩
      have := (insP_perm x r).mem_iff.1 hz
      rcases List.mem_cons.1 this with rfl | hz
      · exact fun h => ltP_irr _ (ltP_trans hxy h)
      · exact h.1 z hz
    · rename_i hxy
      rw [cmpP_lt] at hxy
      rw [List.pairwise_cons, List.pairwise_cons]
      refine ⟨fun z hz => ?_, h⟩
      rcases List.mem_cons.1 hz with rfl | hz
      · exact hxy
      · exact leP_trans hxy (h.1 z hz)
theorem sortP_sorted : ∀ l : List F.Sp, (F.sortP l).Pairwise leP
  | [] => .nil
  | x :: r => insP_sorted x _ (sortP_sorted r)
theorem sortedP_one {l m : List F.Sp} (hl : l.Pairwise leP) (hm : m.Pairwise leP) (h : l.Perm m) : l = m :=
  List.Perm.eq_of_pairwise (le := leP) (fun a b _ _ h1 h2 => ltP_tri a b h2 h1) hl hm h
theorem sortP_eq (l : List F.Sp) : (l.mergeSort fun x y => !(ltOf F.cmpP) y x) = F.sortP l := by
  refine sortedP_one ?_ (sortP_sorted l) ((List.mergeSort_perm l _).trans (sortP_perm l).symm)
  have hb : ∀ a b : F.Sp, (!(ltOf F.cmpP) b a) = true ↔ leP a b := fun a b => by
    unfold ltOf leP
    rw [Bool.not_eq_true', decide_eq_false_iff_not, cmpP_lt]
  have := List.pairwise_mergeSort (le := fun x y : F.Sp => !(ltOf F.cmpP) y x) (fun a b c h1 h2 => (hb a c).2 (leP_trans ((hb a b).1 h1) ((hb b c).1 h2))) (fun a b => by
    rw [Bool.or_eq_true, hb, hb]
    by_cases e : F.ltP b a
    · exact .inr fun h => ltP_irr _ (ltP_trans e h)
    · exact .inl e) l
  exact this.imp fun h => (hb _ _).1 h
theorem cmpP_call (x y : F.Sp) (W : World) : Calls Try.prog 60 (#[.agg (encS x).toArray, .agg (encS y).toArray] ++ #[]) W fun e w' => e = .returned (.int .i64 (F.cmpP x y)) ∧ ∃ q os', w' = grow (W.drewN q) os' := by
  have G : Sym.Good (cod := cod) (fun _ => ⟨0, 0, 0, .tuple #[]⟩) [] W (newIn W) := ⟨fun h o ho => by simp at ho, fun h h' o o' b _ ho => by simp at ho⟩
  have sc : ∀ z : F.Sp, vrel (fun _ => ⟨0, 0, 0, .tuple #[]⟩) 0 (.agg ((cod 2).enc z)) (.agg (encS z).toArray) := fun z => ⟨_, rfl, scalars_rel rfl⟩
  refine (cmpP_sound.calls [.agg ((cod 2).enc x), .agg ((cod 2).enc y)] [] _ W [.agg (encS x).toArray, .agg (encS y).toArray] (.c (.int .i64 (F.cmpP x y))) [] rfl G (.cons (sc x) (.cons (sc y) .nil)) ?_).mono ?_
  · exact rfl
  · rintro e w' ⟨v, env', rfl, _, hv, _, hb⟩
    have : v = .int .i64 (F.cmpP x y) := hv
    rw [this]
    exact ⟨rfl, grow_of hb⟩
theorem sortP_call (b cap : Nat) (l : List F.Sp) (w : World) (hm : l.length ≤ 1000000) (hr : RowAt w b (vals (cod 2) l)) :
    Calls Try.prog 59 (Value.slice (.some ⟨b, 0, Option.none⟩) l.length cap :: fnVals [60]).toArray w fun e w' => e = .returned (.tuple #[]) ∧ ∃ (n : Nat) (os : Array Obj) (D : Array Value), D.toList.map id = vals (cod 2) (F.sortP l) ∧ w' = grow (putRow id (Sort.ahead w n) b 0 D) os := by
  have hH : HoldsK encS 6 w b 0 l.toArray := by
    refine RowAt.holds (e' := id) (D := flatK encS 6 l.toArray) ?_
    rw [List.map_id, flatK_vals]
    exact hr
  have hcon := AnyQ.slices_SortFunc_total laysPlot 6 Try.isAgg53 Try.sizeOf53 encS encS_len (fun x v hv => by
    change v ∈ [Value.int .i64 x.1, .int .i64 x.2.1, .int .i64 x.2.2.1, .int .i64 x.2.2.2.1, .int .i64 x.2.2.2.2.1, .int .i64 x.2.2.2.2.2] at hv
    simp only [List.mem_cons, List.not_mem_nil, or_false] at hv
    rcases hv with rfl | rfl | rfl | rfl | rfl | rfl <;> rfl) F.cmpP swoP 60 #[] b 0 cap l.toArray w cmpP_sound.enters (fun m os dk _ x y => cmpP_call x y _) hH hr.lt (by simp; omega) (fun x y h1 h2 => by
    simp only [ltOf, decide_eq_false_iff_not, cmpP_lt] at h1 h2
    exact ltP_tri x y h1 h2)
  refine hcon.mono ?_
  rintro e w' ⟨rfl, n, os, rfl⟩
  refine ⟨rfl, n, os, flatK encS 6 (F.sortP l).toArray, by rw [List.map_id, flatK_vals], ?_⟩
  rw [show l.toArray.toList = l from rfl, sortP_eq]
  rfl
theorem sortP_none (p : Option Addr) (cap : Nat) (w : World) : Calls Try.prog 59 (Value.slice p 0 cap :: fnVals [60]).toArray w fun e w' => e = .returned (.tuple #[]) ∧ w' = w :=
  AnyF.slices_SortFunc_none laysPlot p cap _ w
theorem sortP_perms : Perms Try.prog cod 59 2 [60] F.sortP Value id where
  enters := enters_fn Try.func59 rfl rfl
  len := sortP_len
  none := sortP_none
  some := fun b cap l w _ hm hr => sortP_call b cap l w hm hr
noncomputable def s_sortP : Summ cod := s_perm 2 [60] F.sortP
theorem sortP_sound : SoundIK Try.prog cod 59 true s_sortP := perm_sound sortP_perms

end
end Go.Proofs.Ytbkpgpkeecnjpaa
