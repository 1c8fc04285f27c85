/- Parts of the proof, one behind the other: Sym31, Lift. -/
import Derived.Test.YtjffboggpofbfaaBd50
import Derived.Test.YtjffboggpofbfaaSym30
import Derived.WalkKit
import Derived.ProofKit
import Derived.SizedLaws
import Derived.Below
import Derived.Carry
import Derived.OpenShut
section
/- A law's argument that is a slice of slices. -/
namespace Go.Proofs.Ytjffboggpofbfaa.Sym
open Go.ChangeShapes Go.WideShapes Go.ChangeAt Go.RowKit

section
variable {cod : Nat → Codec} {H : Type} {enc : TypeId × Value → H} {P : Program} {w : World}
/-- A value that is a slice of these elements. -/
def sliceOf (w : World) (c : Codec) (q : Value × List c.α) : Prop := ∃ (A : Option Addr) (k : Nat), q.1 = .slice A q.2.length k ∧ q.2.length ≤ k ∧ k ≤ maxLen ∧ Reads w w.heap.size c.size A q.2.length (vals c q.2)
theorem flat_fst {α β : Type} : ∀ L : List (α × β), L.flatMap (fun q => [q.1]) = L.map (·.1)
  | [] => rfl
  | a :: l => by rw [List.flatMap_cons, flat_fst l, List.map_cons]; rfl
theorem in_nest (u : Nat) {t : TypeId} (ts e : TypeId) {ks : List Nat} {v : Value} {x : DataW H} {p : List MemPlace} {r : Reach} {b0 : Nat} (ht : P.underlying t = some (.slice ts)) (hlt : leaves P 9 ts = some [ts]) (hct : P.cellsOf ts = 1)
    (hts : P.underlying ts = some (.slice e)) (hle : leaves P 9 e = some (leavesD P e)) (hke : kindsT P (leavesD P e) = some ks) (hc : P.cellsOf e = (leavesD P e).length)
    (hz : (leavesD P e).length = (cod u).size) (hok : ∀ cells, F2 kcell ks cells → (cod u).ok cells = true)
    (hv : Value.okWide P w r b0 t v) (h : DataW.Trod enc P w 0 (fun _ => true) true t v x p) :
    ∃ (A : Option Addr) (c : Nat) (L : List (Value × List (cod u).α)), v = .slice A L.length c ∧ L.length ≤ c ∧ c ≤ maxLen ∧ Reads w w.heap.size 1 A L.length (L.map (·.1)) ∧ ∀ q ∈ L, sliceOf w (cod u) q := by
  have hf : ∀ a : (cod u).α, (((cod u).enc a).map Cell.val).length = (leavesD P e).length := fun a => by rw [List.length_map, (cod u).size_eq, hz]
  obtain ⟨A, n, c, L, h1, h2, h3, h4, h5, h6, _⟩ := open_slice_of (α := Value × List (cod u).α) (fun q => [q.1]) (sliceOf w (cod u)) 9 ht hlt hct (by simp) (fun _ => rfl) (fun cs hcs => by
    obtain ⟨hl, hh⟩ := hcs
    obtain ⟨v1, f, y, hv1, hy⟩ := hh 0 ts (by simp)
    obtain ⟨A1, n1, c1, l1, g1, g2, g3, g4, g5⟩ := open_slice_leaf (fun a => ((cod u).enc a).map Cell.val) 9 hts hle hc (by rw [hz]; exact (cod u).pos) hf (fun cs hcs => by
      obtain ⟨cells, k1, k2⟩ := leaves_any _ hcs hke
      exact ⟨(cod u).dec cells, by rw [(cod u).ok_spec _ (hok _ k1), k2]⟩) hy
    subst g4
    refine ⟨(v1, l1), ?_, A1, c1, g1, g2, g3, ?_⟩
    · match cs, hl with
      | [z], _ =>
        simp only [List.getElem?_cons_zero, Option.some.injEq] at hv1
        rw [hv1]
    · rw [hz] at g5
      unfold vals
      rw [List.map_flatMap]
      exact g5) hv h
  subst h4
  refine ⟨A, c, L, h1, h2, h3, ?_, h6⟩
  rw [← flat_fst]
  exact h5
def hvN (A : Option Addr) (vs : List Value) : HV := match A with
  | some a => ⟨a.block, a.off, 1, .tuple #[], vs⟩
  | none => ⟨0, 0, 1, .tuple #[], vs⟩
theorem nin_rel {env : Env} {N t : Nat} {M : Nat → Prop} {A : Option Addr} {L : List (Value × List (cod t).α)} (hr : Reads w w.heap.size 1 A L.length (L.map (·.1))) (hq : ∀ q ∈ L, sliceOf w (cod t) q) : objRel env N (hvN A (L.map (·.1))) w M (.nin t (L.map (·.2)) none) := by
  obtain ⟨_, h2⟩ := hr
  refine ⟨by cases A <;> rfl, L.map (·.1), by cases A <;> rfl, by simp, fun j u hu => ?_, fun hne => ?_, fun i v l hv hl => ?_, fun p hp => by cases hp⟩
  · have hpos : 0 < L.length := by
      rcases Nat.eq_zero_or_pos L.length with h | h
      · rw [List.length_eq_zero_iff.1 h] at hu
        simp at hu
      · exact h
    obtain ⟨b, off, rfl, _, hc⟩ := h2 hpos
    exact hc j u hu
  · have hpos : 0 < L.length := by
      have := List.length_pos_iff.2 hne
      simpa using this
    obtain ⟨b, off, rfl, hb, _⟩ := h2 hpos
    exact hb
  · rw [List.getElem?_map] at hv hl
    obtain ⟨q, hq1, rfl⟩ := Option.map_eq_some_iff.1 hv
    rw [hq1] at hl
    simp only [Option.map_some, Option.some.injEq] at hl
    subst hl
    obtain ⟨A', k, e1, e2, e3, e4⟩ := hq q (List.mem_of_getElem? hq1)
    refine ⟨A', k, e1, e2, e3, fun hne => ?_⟩
    obtain ⟨b, off, rfl, hb, hc⟩ := e4.2 (List.length_pos_iff.2 hne)
    exact ⟨b, off, rfl, hb, hc⟩
theorem slc_relN {env : Env} {N k : Nat} {A : Option Addr} {n c : Nat} {vs : List Value} (he : env k = hvN A vs) (hk : k < N) (hr : Reads w w.heap.size 1 A n vs) (hc : n ≤ c) (hm : c ≤ maxLen) : vrel env N (.c (.slc k 0 n false)) (.slice A n c) := by
  refine ⟨hk, A, c, rfl, hc, hm, by simp, fun hn => ?_⟩
  obtain ⟨b, off, rfl, _⟩ := hr.2 hn
  rw [he]
  simp [hvN, HV.addr]
/-- The call of a law, its arguments objects that are only read. -/
theorem law_callR {g : FuncId} {s : Summ cod} (hs : Sound P cod g s) {args : List SV} {H : Heap cod} (xs : List HV) {vs : List Value} (hg : (s args H).gives (.c (.bool true), [])) (hro : H.all (fun o => !o.wr) = true)
    (hobj : F2 (fun (o : HObj cod) x => objRel (envOf xs) H.length x w (newIn w) o) H xs) (hargs : F2 (vrel (envOf xs) H.length) args vs) (hT : TabW w (newIn w) := by exact fun _ h => by cases h) : Calls P g vs.toArray w fun e w' => e = .returned (.bool true) ∧ Below w.heap.size w w' := by
  have G : Good (envOf xs) H w (newIn w) := by
    refine ⟨fun h o ho => ?_, fun h h' o o' b _ ho _ hw _ => ?_, hT⟩
    · have key : ∀ (H' : Heap cod) (xs' : List HV) (h : Nat) (o : HObj cod), F2 (fun (o : HObj cod) x => objRel (envOf xs) H.length x w (newIn w) o) H' xs' → H'[h]? = some o → objRel (envOf xs) H.length (xs'.getD h hv0) w (newIn w) o := by
        intro H' xs' h o hf
        induction hf generalizing h with
        | nil => intro h1; simp at h1
        | cons h1 _ ih =>
          intro h2
          cases h with
          | zero =>
            simp only [List.getElem?_cons_zero, Option.some.injEq] at h2
            subst h2
            exact h1
          | succ h =>
            simp only [List.getElem?_cons_succ] at h2
            simpa using ih h h2
      exact key H xs h o hobj ho
    · have := List.all_eq_true.1 hro o (List.mem_of_getElem? ho)
      rw [hw] at this
      cases this
  refine (hs.calls args H (envOf xs) w vs (.c (.bool true)) [] hro G hargs hg).mono ?_
  rintro e w' ⟨v, env', rfl, _, hv, _, hb⟩
  have hv' : v = .bool true := hv
  subst hv'
  exact ⟨rfl, hb.below⟩
end
end Go.Proofs.Ytjffboggpofbfaa.Sym
end
section
/-
  A law's row out of its walk: whatever the parameters, if the walk returns true and writes nothing that was there, the row's step follows. No program in sight.
-/
namespace Go.Proofs.Ytjffboggpofbfaa.Lift
open Go.ChangeShapes Go.WideShapes Go.ChangeAt Go.RowKit

section
variable {H : Type} {enc : TypeId × Value → H} {P : Program}

theorem trodAll_below (hl : laidOutB P = true) {W W' : World} (hb : Below W.heap.size W W') :
    ∀ (ts : List TypeId) (vs : List Value) (ds : List (DataW H)) (ps : List MemPlace), (∀ t ∈ ts, P.readableRec t = true ∧ t < P.types.size) →
      DataW.TrodAll enc P W 0 (fun _ => true) true ts vs ds ps → (∀ x ∈ ps, x.block < W.heap.size) →
      DataW.TrodAll enc P W' 0 (fun b => decide (b < W.heap.size)) true ts vs ds ps
  | [], [], [], _, _, h, _ => h
  | [], [], _ :: _, _, _, h, _ => h.elim
  | [], _ :: _, _, _, _, h, _ => h.elim
  | _ :: _, [], _, _, _, h, _ => h.elim
  | _ :: _, _ :: _, [], _, _, h, _ => h.elim
  | t :: ts, v :: vs, d :: ds, ps, hr, h, hlt => by
    obtain ⟨p, q, h1, h2, rfl⟩ := h
    have ht := hr t (List.mem_cons_self ..)
    exact ⟨p, q, Below.trod hl ht.1 ht.2 h1 hb (fun x hx => hlt x (List.mem_append.2 (.inl hx))),
      trodAll_below hl hb ts vs ds q (fun t h => hr t (List.mem_cons_of_mem _ h)) h2 (fun x hx => hlt x (List.mem_append.2 (.inr hx))), rfl⟩

theorem trodAll_length : ∀ (ts : List TypeId) (vs : List Value) (ds : List (DataW H)) (ps : List MemPlace) {W : World} {b : Nat} {sp : Nat → Bool} {hd : Bool}, DataW.TrodAll enc P W b sp hd ts vs ds ps → ds.length = ts.length ∧ vs.length = ts.length
  | [], [], [], _, _, _, _, _, _ => ⟨rfl, rfl⟩
  | [], [], _ :: _, _, _, _, _, _, h => h.elim
  | [], _ :: _, _, _, _, _, _, _, h => h.elim
  | _ :: _, [], _, _, _, _, _, _, h => h.elim
  | _ :: _, _ :: _, [], _, _, _, _, _, h => h.elim
  | _ :: ts, _ :: vs, _ :: ds, _, _, _, _, _, h => by
    obtain ⟨p, q, _, h2, rfl⟩ := h
    have := trodAll_length ts vs ds q h2
    simp [this]

/-- What a walk is told of its arguments. -/
structure Args (enc : TypeId × Value → H) (P : Program) (fn : Func) (W : World) (args : Array Value) (ds : List (DataW H)) (p : List MemPlace) : Prop where
  val : ∀ (j : Nat) t v, fn.params[j]? = some t → args[j]? = some v → ∃ base, Value.okWide P W .any base t v
  trod : DataW.TrodAll enc P W 0 (fun _ => true) true fn.params.toList args.toList ds p
  lt : ∀ x ∈ p, x.block < W.heap.size
  reach : (DataW.weightsEach P fn.params.toList ds).all (· ≤ reachBytes) = true
  free : W.noneFrozen p

theorem law {C : Checked} {os : Os} {f : FuncId} {fn : Func} {s : ChangeSpec} {tb : TypeId} (own : ownKnob C.prog.godebug = none) (started : os.Started) (noInit : C.prog.inits.idxOf? f = none) (hfn : C.prog.funcs[f]? = some fn)
    (witness : ∃ (w : World) (tape : Tape) (i : Input), w.os = os ∧ (w.forCall tape i).Shaped C.prog ∧ i.vars = [] ∧ Input.okWide C.prog (w.forCall tape i) .any w.heap.size f i ∧
      s.pre6 enc C.prog fn [] false (w.forCall tape i).memory i.args ∧ ({} : Assume).holds C.prog (lone (Frame.enter C.prog f i.args .normal) [] (w.forCall tape i)))
    (hvars : s.vars = []) (hres : fn.resultTypes = #[tb]) (htb : C.prog.underlying tb = some .bool) (hl : laidOutB C.prog = true)
    (hrb : (fn.params.toList.all fun t => C.prog.readableRec t && decide (t < C.prog.types.size)) = true)
    (hspec : ∀ ds : List (DataW H), ds.length = fn.params.toList.length → s.fn H ds = { results := [.lit (.bool true)], args := ds, vars := [] })
    (walk : ∀ (W : World) (args : Array Value) (ds : List (DataW H)) (p : List MemPlace), Args enc C.prog fn W args ds p →
      Calls C.prog f args W fun e W' => e = .returned (.bool true) ∧ Below W.heap.size W W') :
    ReturnsInHanded {} C os f .any (s.pre6 enc C.prog fn [] false) (s.post enc C.prog fn false true false false) := by
  have hrd : ∀ t ∈ fn.params.toList, C.prog.readableRec t = true ∧ t < C.prog.types.size := fun t ht => by
    have := List.all_eq_true.1 hrb t ht
    simpa using this
  refine returnsInHanded_of_change_sized own started noInit hfn witness ?_
  intro W base args ds gs before hval hW hcnd hsz _
  have hlt : ∀ x ∈ before, x.block < W.heap.size := fun x hx => hW.lt x hx
  have hW' := hW
  obtain ⟨p, q, hA, hV, rfl, hfz, hnd⟩ := hW
  rw [hvars] at hV
  obtain ⟨rfl, rfl⟩ := trodVars_none hV
  simp only [List.append_nil] at hlt hfz
  have hvt : s.plain.varTypes C.prog = [] := by simp [ChangeSpec.plain, DataSpec.varTypes, hvars]
  rw [hvt] at hsz
  simp only [List.append_nil] at hsz
  refine (walk W args ds p ⟨fun j t v hj hv => ⟨base, hval j t v hj hv⟩, hA, hlt, hsz, hfz⟩).mono fun e W' ⟨he, hb⟩ => ⟨_, he, ?_⟩
  have hds := (trodAll_length _ _ _ _ hA).1
  have hsp := hspec ds hds
  refine ⟨ds, [], _, [], p, [], hW', ?_, ?_, ?_, hb.frame _, fun h => by cases h⟩
  · rw [List.append_nil, hsp, hres]
    exact trodAll_cons_mk (shut_bool htb _) trodAll_mk0
  · rw [List.append_nil, hsp]
    exact trodAll_below hl hb _ _ _ _ hrd hA hlt
  · rw [List.append_nil, hsp, hvars]
    rfl
end
end Go.Proofs.Ytjffboggpofbfaa.Lift
end
