/- A region that draws and calls a function value: the call looks, and writes nothing. -/
import Derived.Test.YtjffboggpofbfaaSym39
import Derived.Test.YtjffboggpofbfaaBd23
namespace Go.Proofs.Ytjffboggpofbfaa.Sym
open Go.RowKit

section
variable {cod : Nat → Codec}
/-- A function value whose call looks and writes nothing (or no function value). -/
def quietV (cfg : Cfg cod) : SV → Prop
  | .c (.fn g _) => isExt cfg.P g = false ∧ (cfg.summ g).isSome = true ∧ cfg.quiet g = true
  | _ => True
/-- Two operations that leave the objects as they are. -/
theorem swap_still {cfg : Cfg cod} {ops : Array Oper} {oi oj : Oper} {st s1 s2 : St cod} (h1 : absStep cfg ops oi st s1) (h2 : absStep cfg ops oj s1 s2) (hap : oi.apart ops oj = true)
    (q1 : ∀ out : Out cod, eff cfg ops oi st out → out.H = st.heap ∧ out.kill = []) (q2 : ∀ out : Out cod, eff cfg ops oj s1 out → out.H = s1.heap ∧ out.kill = []) :
    ∃ t1, absStep cfg ops oj st t1 ∧ absStep cfg ops oi t1 s2 := by
  obtain ⟨a1, a2, a3⟩ := Oper.apart_spec hap
  obtain ⟨oi', e1, rfl⟩ := step_eff.1 h1
  obtain ⟨oj', e2, rfl⟩ := step_eff.1 h2
  obtain ⟨g1, g2⟩ := q1 oi' e1
  obtain ⟨g3, g4⟩ := q2 oj' e2
  rw [put_plain g2] at e2 g3 ⊢
  simp only at g3
  rw [g1] at e2 g3
  have e3 : eff cfg ops oj st oj' := (eff_congr (cfg := cfg) (st := st) (d := oi.dst) (v := oi'.v) rfl a1).1 e2
  refine ⟨_, step_eff.2 ⟨oj', e3, rfl⟩, step_eff.2 ⟨oi', ?_, ?_⟩⟩
  · rw [put_plain g4, g3]
    exact (eff_congr (cfg := cfg) (st := st) (d := oj.dst) (v := oj'.v) rfl a3).2 e1
  · rw [put_plain g4, put_plain g4, put_plain g2]
    simp only [g1, g3]
    congr 1
    cases hdi : oi.dst with
    | none => cases hdj : oj.dst <;> rfl
    | some di =>
      cases hdj : oj.dst with
      | none => rfl
      | some dj => exact List.set_comm _ _ (fun e => a2 di hdi (by rw [hdj, e]))
/-- The call of the function value in slot d. -/
def isDyn (d : Nat) (o : Oper) : Bool := match o.op with
  | .call { callee := .value (.tmp x), .. } => decide (x = d)
  | _ => false
theorem dyn_still {cfg : Cfg cod} {ops : Array Oper} {o : Oper} {s : St cod} {d : Nat} (hpl : ∀ d, cfg.place d = none) (hg : o.guard = none) (hk : (decide (kindP cfg o ≤ 1) || isDyn d o) = true) (hq : quietV cfg (evS s.tmps (.tmp d))) {out : Out cod} (e : eff cfg ops o s out) : out.H = s.heap ∧ out.kill = [] := by
  have hno : o.dst.bind cfg.place = none := by cases o.dst <;> simp [hpl]
  rw [Bool.or_eq_true, decide_eq_true_eq] at hk
  rcases hk with hk | hk
  · obtain ⟨k1, k2, k3, _⟩ := eff_kind e
    refine ⟨?_, k1 (by omega)⟩
    rcases Nat.lt_or_ge (kindP cfg o) 1 with c | c
    · exact (k2 (by omega)).1
    · exact (k3 (by omega)).1
  · unfold isDyn at hk
    split at hk
    · rename_i x args ats ho
      simp only [decide_eq_true_eq] at hk
      subst hk
      unfold eff at e
      rw [hg] at e
      simp only at e
      rw [opP_plain (.inr hno)] at e
      unfold opS at e
      simp only [ho] at e
      split at e
      · rename_i g caps hv
        rw [hv] at hq
        obtain ⟨x1, x2, x3⟩ := hq
        rw [if_neg (by rw [x1]; decide)] at e
        obtain ⟨h1, _, h3⟩ := callS_grow x2 e
        exact ⟨(h3 x3).1, h1⟩
      · exact e.elim
    · cases hk
/-- The region in the text's order, as a tree; d0 holds the function value, d gets it. -/
theorem Runs.lexQ {cfg : Cfg cod} (hS : CfgFit cfg) (hm : cfg.P.follows .mixedOrders = true) {b0 : Base} {id : Nat} {ops : Array Oper} {L k : List Item} (hL : L = .code (.region id ops true) :: k) {st : St cod} {Q : St cod → Prop} (d0 d : Nat)
    (hB : Region.lexB .any ops = true)
    (hk : (ops.toList.all fun o => decide (kindP cfg o ≤ 1) || isDyn d o) = true)
    (hd : (ops.toList.all fun o => (decide (o.dst ≠ some d0) && decide (o.dst ≠ some d)) || (decide (o.dst = some d) && match o.op with | .move (.tmp x) => decide (x = d0) | _ => false)) = true)
    (hg : (ops.toList.all fun o => o.guard.isNone) = true)
    (h0 : quietV cfg (evS st.tmps (.tmp d0))) (h1 : quietV cfg (evS st.tmps (.tmp d))) {t : T (St cod)} (ht : Sym.lexT cfg ops.toList st = t) (hr : t.wp fun s => Runs cfg.P b0 k s Q) : Runs cfg.P b0 L st Q := by
  subst hL
  subst ht
  obtain ⟨sE, hsE, hr⟩ := T.wp_gives hr
  have gn : ∀ o ∈ ops.toList, o.guard = none := fun o ho => by simpa using List.all_eq_true.1 hg o ho
  have h : absRun cfg ops ops.toList st sE := lexT_run ops.toList st sE gn hsE
  have hin : ∀ {j : Nat} {o : Oper}, ops[j]? = some o → o ∈ ops.toList := fun h => by
    rw [← Array.getElem?_toList] at h
    exact List.mem_of_getElem? h
  let I : St cod → Prop := fun s => quietV cfg (evS s.tmps (.tmp d0)) ∧ quietV cfg (evS s.tmps (.tmp d))
  have hI0 : I st := ⟨h0, h1⟩
  have hJ : ∀ o ∈ ops.toList, ∀ s s', I s → absStep cfg ops o s s' → I s' := fun o ho s s' hs hst => by
    obtain ⟨out, e, rfl⟩ := step_eff.1 hst
    obtain ⟨e1, e2⟩ := dyn_still hS.2.2 (gn o ho) (List.all_eq_true.1 hk o ho) hs.2 e
    have hdo := List.all_eq_true.1 hd o ho
    rw [Bool.or_eq_true, Bool.and_eq_true, Bool.and_eq_true, decide_eq_true_eq, decide_eq_true_eq, decide_eq_true_eq] at hdo
    have keep : ∀ x : Nat, o.dst ≠ some x → evS (s.put o.dst out).tmps (.tmp x) = evS s.tmps (.tmp x) := fun x hx => by
      rw [put_plain e2]
      cases hds : o.dst with
      | none => rfl
      | some y =>
        have hne : y ≠ x := fun q => hx (by rw [hds, q])
        show (s.tmps.set y out.v).getD x _ = s.tmps.getD x _
        rw [List.getD, List.getD, List.getElem?_set_ne hne]
    rcases hdo with ⟨n1, n2⟩ | ⟨n1, n2⟩
    · exact ⟨(congrArg (quietV cfg) (keep d0 n1)).mpr hs.1, (congrArg (quietV cfg) (keep d n2)).mpr hs.2⟩
    · have hv : out.v = evS s.tmps (.tmp d0) := by
        split at n2
        · rename_i x ho'
          simp only [decide_eq_true_eq] at n2
          subst n2
          unfold eff at e
          rw [gn o ho] at e
          simp only at e
          rw [opP_plain (.inr (by cases o.dst <;> simp [hS.2.2]))] at e
          unfold opS at e
          simp only [ho', T.gives_ret] at e
          rw [← e]
        · cases n2
      have put : quietV cfg (evS (s.tmps.set d out.v) (.tmp d)) := by
        show quietV cfg ((s.tmps.set d out.v).getD d _)
        rw [List.getD]
        rcases Nat.lt_or_ge d s.tmps.length with c | c
        · rw [List.getElem?_set_self c]
          show quietV cfg out.v
          rw [hv]
          exact hs.1
        · rw [List.getElem?_eq_none (by rw [List.length_set]; exact c)]
          trivial
      rw [put_plain e2, n1]
      refine ⟨?_, put⟩
      by_cases c : d0 = d
      · rw [c]; exact put
      · show quietV cfg ((s.tmps.set d out.v).getD d0 _)
        rw [List.getD, List.getElem?_set_ne (fun q => c q.symm)]
        exact hs.1
  have hrun := runI_and (I := fun _ => True) (J := I) hJ (fun o ho => ho) (runI_true h) hI0
  have hany := absAny_lex (Q := fun s => s = sE) (fun i j oi oj hij hi hj => .inl fun hap s s1 s2 hI k1 k2 => by
    obtain ⟨t1, q1, q2⟩ := swap_still k1 k2 hap
      (fun out e => dyn_still hS.2.2 (gn oi (hin hi)) (List.all_eq_true.1 hk oi (hin hi)) hI.2.2 e)
      (fun out e => dyn_still hS.2.2 (gn oj (hin hj)) (List.all_eq_true.1 hk oj (hin hj)) (hJ oi (hin hi) s s1 hI.2 k1).2 e)
    exact ⟨t1, q1, q2, fun _ => ⟨trivial, hJ oj (hin hj) s t1 hI.2 q1⟩⟩) ops.toList 0 (Array.replicate ops.size false) st sE (by simp) (fun j o _ hl => by simp [Array.getElem?_replicate] at hl; split at hl <;> simp_all) (fun j hj => by omega) (by
      simp only [Region.lexB, Bool.and_eq_true] at hB
      simpa using hB.2) hrun rfl
  intro b cs a w hR
  have hw : (Code.region id ops true).wp cfg.P (fun e a' w' => e = .normal ∧ Rel sE b0 a' w') a w := wp_region_any hm (abs_wpAny hS.ok (Q := fun s => s = sE) (fun s _ => ⟨FrC.none hS.2.2 _ _, fun k ⟨⟨d, hd⟩, _⟩ => by rw [hS.2.2 d] at hd; cases hd⟩) (fun s a' w' hs hR' => by subst hs; exact ⟨rfl, hR'⟩) _ _ st a _ (by simpa using hany) (rel_drew hR))
  obtain ⟨e, a', w', ⟨rfl, hR'⟩, harr⟩ := hw b k cs
  obtain ⟨s, a'', w'', todo, q1, q2, q3⟩ := hr b cs a' w' hR'
  exact ⟨s, a'', w'', todo, q1, q2, Steps.trans harr q3⟩
/-- .. and the run behind it, one tree. -/
theorem Runs.lexG {cfg : Cfg cod} (hS : CfgFit cfg) (hm : cfg.P.follows .mixedOrders = true) (cuts : Cuts) {b0 : Base} {fn : Func} {r : SV} {news : Heap cod} (g : Nat) {N : Nat} (hb : b0.n = N) {id : Nat} {ops : Array Oper} {L k : List Item} (hL : L = .code (.region id ops true) :: k) {st : St cod} (d0 d : Nat)
    (hB : Region.lexB .any ops = true)
    (hk : (ops.toList.all fun o => decide (kindP cfg o ≤ 1) || isDyn d o) = true)
    (hd : (ops.toList.all fun o => (decide (o.dst ≠ some d0) && decide (o.dst ≠ some d)) || (decide (o.dst = some d) && match o.op with | .move (.tmp x) => decide (x = d0) | _ => false)) = true)
    (hg : (ops.toList.all fun o => o.guard.isNone) = true)
    (h0 : quietV cfg (evS st.tmps (.tmp d0))) (h1 : quietV cfg (evS st.tmps (.tmp d))) {t : T (Fin cod)} (ht : ((Sym.lexT cfg ops.toList st).bind fun s => symF cfg cuts fn.results.toList N g k s) = t)
    (h : t.wp (Aft cfg.P b0 (Ends cfg.P fn N r news) r news)) : Runs cfg.P b0 L st (Ends cfg.P fn N r news) := by
  subst ht
  refine Runs.lexQ hS hm hL d0 d hB hk hd hg h0 h1 rfl ?_
  rw [T.wp_bind] at h
  exact T.wp_mono (fun s hs => Runs.go hS hm cuts g hb rfl hs) h
end
end Go.Proofs.Ytjffboggpofbfaa.Sym
