/- Parts of the proof, one behind the other: Sym21, Sym23, Sym28, Lift. -/
import Derived.Test.YtkfkfihjdohjfaaBd23
import Derived.Test.YtkfkfihjdohjfaaOpen
import Derived.WalkKit
import Derived.ProofKit
import Derived.SizedLaws
import Derived.Below
import Derived.Carry
import Derived.OpenShut
section
/- A law's call out of its summary: the arguments as objects that are only read. -/
namespace Go.Proofs.Ytkfkfihjdohjfaa.Sym
open Go.ChangeShapes Go.WideShapes Go.ChangeAt Go.RowKit

section
variable {cod : Nat → Codec} {P : Program}
def HObj.isInp : HObj cod → Bool
  | .inp _ _ => true
  | _ => false
def hv0 : HV := ⟨0, 0, 0, .tuple #[]⟩
def envOf (xs : List HV) : Env := fun h => xs.getD h hv0
theorem law_call {g : FuncId} {s : Summ cod} (hs : Sound P cod g s) {args : List SV} {H : Heap cod} (xs : List HV) {vs : List Value} {w : World} (hg : (s args H).gives (.c (.bool true), [])) (hin : H.all HObj.isInp = true)
    (hobj : F2 (fun (o : HObj cod) x => objRel (envOf xs) H.length x w (newIn w) o) H xs) (hargs : F2 (vrel (envOf xs) H.length) args vs) (hT : TabW w (newIn w) := by exact fun _ h => by cases h) : Calls P g vs.toArray w fun e w' => e = .returned (.bool true) ∧ Below w.heap.size w w' := by
  have hro : H.all (fun o => !o.wr) = true := List.all_eq_true.2 fun o ho => by
    have := List.all_eq_true.1 hin o ho
    cases o <;> simp_all [HObj.isInp, HObj.wr]
  have G : Good (envOf xs) H w (newIn w) := by
    refine ⟨fun h o ho => ?_, fun h h' o o' b _ ho _ hw _ => ?_, hT⟩
    · have key : ∀ (H' : Heap cod) (xs' : List HV) (h : Nat) (o : HObj cod), F2 (fun (o : HObj cod) x => objRel (envOf xs) H.length x w (newIn w) o) H' xs' → H'[h]? = some o → objRel (envOf xs) H.length (xs'.getD h hv0) w (newIn w) o := by
        intro H' xs' h o hf
        induction hf generalizing h with
        | nil => intro h1; simp at h1
        | cons h1 _ ih =>
          intro h2
          cases h with
          | zero =>
            simp only [List.getElem?_cons_zero, Option.some.injEq] at h2
            subst h2
            exact h1
          | succ h =>
            simp only [List.getElem?_cons_succ] at h2
            simpa using ih h h2
      exact key H xs h o hobj ho
    · have := List.all_eq_true.1 hro o (List.mem_of_getElem? ho)
      rw [hw] at this
      cases this
  refine (hs.calls args H (envOf xs) w vs (.c (.bool true)) [] hro G hargs hg).mono ?_
  rintro e w' ⟨v, env', rfl, _, hv, _, hb⟩
  have hv' : v = .bool true := hv
  subst hv'
  exact ⟨rfl, hb.below⟩
/-- What a slice that is only read is taken as. -/
def hvOf (size : Nat) : Option Addr → HV
  | some a => ⟨a.block, a.off, size, .tuple #[]⟩
  | none => ⟨0, 0, size, .tuple #[]⟩
theorem inp_rel {env : Env} {N t : Nat} {M : Nat → Prop} {w : World} {A : Option Addr} {n : Nat} {l : List (cod t).α} (hr : Reads w w.heap.size (cod t).size A n (vals (cod t) l)) (hl : l.length = n) : objRel env N (hvOf (cod t).size A) w M (.inp t l) := by
  obtain ⟨_, h2⟩ := hr
  have hes : (hvOf (cod t).size A).esize = (cod t).size := by cases A <;> rfl
  refine ⟨hes, ?_, fun hne => ?_⟩
  · intro j u hu
    rcases Nat.eq_zero_or_pos n with h | h
    · rw [h] at hl
      rw [List.length_eq_zero_iff.1 hl] at hu
      simp [vals] at hu
    · obtain ⟨b, off, rfl, _, hc⟩ := h2 h
      exact hc j u hu
  · obtain ⟨b, off, rfl, hb, _⟩ := h2 (by
      have := List.length_pos_iff.2 hne
      omega)
    exact hb
theorem slc_rel {env : Env} {N k t : Nat} {w : World} {A : Option Addr} {n c : Nat} {l : List (cod t).α} (he : env k = hvOf (cod t).size A) (hk : k < N) (hr : Reads w w.heap.size (cod t).size A n (vals (cod t) l)) (hc : n ≤ c) (hm : c ≤ maxLen) : vrel env N (.c (.slc k 0 n false)) (.slice A n c) := by
  refine ⟨hk, A, c, rfl, hc, hm, by simp, fun hn => ?_⟩
  obtain ⟨b, off, rfl, _⟩ := hr.2 hn
  rw [he]
  simp [hvOf, HV.addr]
theorem crels_ints {env : Env} {N : Nat} : ∀ l : List Int, crels env N (ints l) (l.map (.int .i64))
  | [] => .nil
  | _ :: l => .cons rfl (crels_ints l)
theorem vrel_ints {env : Env} {N : Nat} (l : List Int) {cs : List Value} (h : cs = l.map (.int .i64)) : vrel env N (.agg (ints l)) (.agg cs.toArray) := ⟨_, rfl, by rw [h]; exact crels_ints l⟩
theorem vrel_int {env : Env} {N : Nat} (n : Int) : vrel env N (.c (.int .i64 n)) (.int .i64 n) := rfl
theorem ints_any {H : Type} {enc : TypeId × Value → H} {w : World} {base : Nat} {spare : Nat → Bool} {held : Bool} {t : TypeId} (ht : P.underlying t = some (.int .i64)) : ∀ (n : Nat) {cs : List Value}, LeavesOk enc P w base spare held (List.replicate n t) cs → ∃ l : List Int, l.length = n ∧ cs = l.map (.int .i64) ∧ ∀ x ∈ l, Sym.i64ok x
  | 0, cs, h => by
    match cs, h.1 with
    | [], _ => exact ⟨[], rfl, rfl, by simp⟩
  | n + 1, cs, h => by
    obtain ⟨hl, h⟩ := h
    match cs, hl with
    | c0 :: cs, hl =>
      obtain ⟨v, f, y, hv, hy⟩ := h 0 t (by simp [List.replicate_succ])
      obtain ⟨n0, q, _, wf0⟩ := DataW.trod_int ht hy
      simp at hv q
      subst hv
      subst q
      obtain ⟨l, h1, h2, h3⟩ := ints_any ht n (cs := cs) ⟨by simpa using hl, fun i t' hi => by
        have := h (i + 1) t' (by simpa [List.replicate_succ] using hi)
        simpa using this⟩
      have := wf_i64 wf0
      exact ⟨n0 :: l, by simp [h1], by rw [h2]; rfl, by simpa [Sym.i64ok, i64ok] using ⟨this, h3⟩⟩
end
end Go.Proofs.Ytkfkfihjdohjfaa.Sym
end
section
/- A law's arguments, whatever their leaves: ints, bools, strings; by value, or as a slice's elements. -/
namespace Go.Proofs.Ytkfkfihjdohjfaa.Sym
open Go.ChangeShapes Go.WideShapes Go.ChangeAt Go.RowKit

section
variable {cod : Nat → Codec} {H : Type} {enc : TypeId × Value → H} {P : Program} {w : World} {base : Nat} {spare : Nat → Bool} {held : Bool}
def kindT (P : Program) (t : TypeId) : Option Nat :=
  match P.underlying t with
  | some (.int .i64) => some 0
  | some .bool => some 1
  | some .string => some 2
  | _ => none
def kindsT (P : Program) : List TypeId → Option (List Nat)
  | [] => some []
  | t :: l => match kindT P t, kindsT P l with
    | some k, some ks => some (k :: ks)
    | _, _ => none
def kcell : Nat → Cell → Prop
  | 0, c => ∃ n, c = .int .i64 n ∧ i64ok n
  | 1, c => ∃ b, c = .bool b
  | 2, c => ∃ s, c = .str s ∧ s.length ≤ maxLen
  | _, _ => False
theorem kcell_scal : ∀ {k : Nat} {c : Cell}, kcell k c → c.scalar = true
  | 0, _, ⟨_, h, _⟩ => by rw [h]; rfl
  | 1, _, ⟨_, h⟩ => by rw [h]; rfl
  | 2, _, ⟨_, h, _⟩ => by rw [h]; rfl
  | _ + 3, _, h => h.elim
theorem kcells_scal : ∀ {ks : List Nat} {cs : List Cell}, F2 kcell ks cs → cs.all Cell.scalar = true
  | _, _, .nil => rfl
  | _, _, .cons h t => by simp [kcell_scal h, kcells_scal t]
theorem leaf_any {t : TypeId} {k f : Nat} {v : Value} {y : DataW H × List MemPlace} (hk : kindT P t = some k) (h : DataW.trod enc P w base spare held f t [v] = some y) : ∃ c, kcell k c ∧ v = c.val := by
  unfold kindT at hk
  split at hk
  · rename_i ht
    cases hk
    obtain ⟨n, q, _, wf0⟩ := DataW.trod_int ht h
    simp at q
    subst q
    exact ⟨_, ⟨n, rfl, wf_i64 wf0⟩, rfl⟩
  · rename_i ht
    cases hk
    obtain ⟨b, q, _⟩ := DataW.trod_bool ht h
    simp at q
    subst q
    exact ⟨_, ⟨b, rfl⟩, rfl⟩
  · rename_i ht
    cases hk
    obtain ⟨s, q, _, hs⟩ := DataW.trod_string ht h
    simp at q
    subst q
    exact ⟨.str s.data.toList, ⟨_, rfl, by rw [Array.length_toList]; exact hs⟩, rfl⟩
  · cases hk
theorem leaves_any : ∀ (ls : List TypeId) {ks : List Nat} {cs : List Value}, LeavesOk enc P w base spare held ls cs → kindsT P ls = some ks → ∃ cells, F2 kcell ks cells ∧ cs = cells.map Cell.val
  | [], ks, cs, h, hk => by
    cases hk
    match cs, h.1 with
    | [], _ => exact ⟨[], .nil, rfl⟩
  | t :: ls, ks, cs, h, hk => by
    unfold kindsT at hk
    split at hk
    · rename_i k ks' e1 e2
      cases hk
      obtain ⟨hl, h⟩ := h
      match cs, hl with
      | c0 :: cs, hl =>
        obtain ⟨v, f, y, hv, hy⟩ := h 0 t (by simp)
        simp at hv
        subst hv
        obtain ⟨c, h1, h2⟩ := leaf_any e1 hy
        obtain ⟨cells, h3, h4⟩ := leaves_any ls (cs := cs) ⟨by simpa using hl, fun i t' hi => by
          have := h (i + 1) t' (by simpa using hi)
          simpa using this⟩ e2
        exact ⟨c :: cells, .cons h1 h3, by rw [h2, h4]; rfl⟩
    · cases hk
theorem kc0 {ks : List Nat} {cs : List Cell} (h : F2 kcell (0 :: ks) cs) : ∃ n r, cs = .int .i64 n :: r ∧ i64ok n ∧ F2 kcell ks r := by
  cases h with
  | cons h t =>
    obtain ⟨n, rfl, hn⟩ := h
    exact ⟨n, _, rfl, hn, t⟩
theorem kc1 {ks : List Nat} {cs : List Cell} (h : F2 kcell (1 :: ks) cs) : ∃ n r, cs = .bool n :: r ∧ True ∧ F2 kcell ks r := by
  cases h with
  | cons h t =>
    obtain ⟨n, rfl⟩ := h
    exact ⟨n, _, rfl, trivial, t⟩
theorem kc2 {ks : List Nat} {cs : List Cell} (h : F2 kcell (2 :: ks) cs) : ∃ n r, cs = .str n :: r ∧ n.length ≤ maxLen ∧ F2 kcell ks r := by
  cases h with
  | cons h t =>
    obtain ⟨n, rfl, hn⟩ := h
    exact ⟨n, _, rfl, hn, t⟩
theorem kcn {cs : List Cell} (h : F2 kcell [] cs) : cs = [] := by
  cases h
  rfl
def leavesD (P : Program) (t : TypeId) : List TypeId := (leaves P 9 t).getD []
/-- A struct or an array by value. -/
theorem in_val {t : TypeId} {ks : List Nat} {r : Reach} {b0 : Nat} {v : Value} {x : DataW H} {p : List MemPlace} (hl : leaves P 9 t = some (leavesD P t)) (hk : kindsT P (leavesD P t) = some ks)
    (hs : (match P.underlying t with | some (.struct _) | some (.array _ _) => true | _ => false) = true) (hv : Value.okWide P w r b0 t v) (h : DataW.Trod enc P w base spare held t v x p) : ∃ cells, v = .agg (cells.map Cell.val).toArray ∧ F2 kcell ks cells := by
  obtain ⟨c0, hc, k0⟩ := open_val 9 hl hs hv h
  obtain ⟨cells, h1, h2⟩ := leaves_any _ k0 hk
  exact ⟨cells, by rw [hc, h2], h1⟩
theorem vrel_scal {env : Env} {N : Nat} {cs : List Cell} (h : cs.all Cell.scalar = true) : vrel env N (.agg cs) (.agg (cs.map Cell.val).toArray) := ⟨_, rfl, scalars_rel h⟩
theorem vrel_bool {env : Env} {N : Nat} (b : Bool) : vrel env N (.c (.bool b)) (.bool b) := rfl
theorem vrel_str {env : Env} {N : Nat} (s : ByteArray) : vrel env N (.c (.str s.data.toList)) (.string s) := rfl
/-- A slice's elements. -/
theorem in_slice (u : Nat) {t : TypeId} (e : TypeId) {ks : List Nat} {v : Value} {x : DataW H} {p : List MemPlace} {r : Reach} {b0 : Nat} (ht : P.underlying t = some (.slice e)) (hl : leaves P 9 e = some (leavesD P e)) (hk : kindsT P (leavesD P e) = some ks) (hc : P.cellsOf e = (leavesD P e).length)
    (hz : (leavesD P e).length = (cod u).size) (hok : ∀ cells, F2 kcell ks cells → (cod u).ok cells = true)
    (hv : Value.okWide P w r b0 t v) (h : DataW.Trod enc P w 0 (fun _ => true) true t v x p) :
    ∃ (A : Option Addr) (c : Nat) (l : List (cod u).α), v = .slice A l.length c ∧ l.length ≤ c ∧ c ≤ maxLen ∧ Reads w w.heap.size (cod u).size A l.length (vals (cod u) l) := by
  have hf : ∀ a : (cod u).α, (((cod u).enc a).map Cell.val).length = (leavesD P e).length := fun a => by rw [List.length_map, (cod u).size_eq, hz]
  obtain ⟨A, n, c, l, h1, h2, h3, h4, h5, _, _⟩ := open_slice_of (fun a => ((cod u).enc a).map Cell.val) (fun _ => True) 9 ht hl hc (by rw [hz]; exact (cod u).pos) hf (fun cs hcs => by
    obtain ⟨cells, g1, g2⟩ := leaves_any _ hcs hk
    exact ⟨(cod u).dec cells, by rw [(cod u).ok_spec _ (hok _ g1), g2], trivial⟩) hv h
  subst h4
  refine ⟨A, c, l, h1, h2, h3, ?_⟩
  rw [hz] at h5
  unfold vals
  rw [List.map_flatMap]
  exact h5
end
end Go.Proofs.Ytkfkfihjdohjfaa.Sym
end
section
/- A law's slice argument, with what holds of each of its elements. -/
namespace Go.Proofs.Ytkfkfihjdohjfaa.Sym
open Go.ChangeShapes Go.WideShapes Go.ChangeAt Go.RowKit

section
variable {cod : Nat → Codec} {H : Type} {enc : TypeId × Value → H} {P : Program} {w : World}
theorem in_sliceQ (u : Nat) {t : TypeId} (e : TypeId) (Q : (cod u).α → Prop) {ks : List Nat} {v : Value} {x : DataW H} {p : List MemPlace} {r : Reach} {b0 : Nat} (ht : P.underlying t = some (.slice e)) (hl : leaves P 9 e = some (leavesD P e)) (hk : kindsT P (leavesD P e) = some ks) (hc : P.cellsOf e = (leavesD P e).length)
    (hz : (leavesD P e).length = (cod u).size) (hok : ∀ cells, F2 kcell ks cells → (cod u).ok cells = true ∧ Q ((cod u).dec cells))
    (hv : Value.okWide P w r b0 t v) (h : DataW.Trod enc P w 0 (fun _ => true) true t v x p) :
    ∃ (A : Option Addr) (c : Nat) (l : List (cod u).α), v = .slice A l.length c ∧ l.length ≤ c ∧ c ≤ maxLen ∧ Reads w w.heap.size (cod u).size A l.length (vals (cod u) l) ∧ ∀ a ∈ l, Q a := by
  have hf : ∀ a : (cod u).α, (((cod u).enc a).map Cell.val).length = (leavesD P e).length := fun a => by rw [List.length_map, (cod u).size_eq, hz]
  obtain ⟨A, n, c, l, h1, h2, h3, h4, h5, h6, _⟩ := open_slice_of (fun a => ((cod u).enc a).map Cell.val) Q 9 ht hl hc (by rw [hz]; exact (cod u).pos) hf (fun cs hcs => by
    obtain ⟨cells, g1, g2⟩ := leaves_any _ hcs hk
    exact ⟨(cod u).dec cells, by rw [(cod u).ok_spec _ (hok _ g1).1, g2], (hok _ g1).2⟩) hv h
  subst h4
  refine ⟨A, c, l, h1, h2, h3, ?_, h6⟩
  rw [hz] at h5
  unfold vals
  rw [List.map_flatMap]
  exact h5
end
end Go.Proofs.Ytkfkfihjdohjfaa.Sym
end
section
/-
  A law's row out of its walk: whatever the parameters, if the walk returns true and writes nothing that was there, the row's step follows. No program in sight.
-/
namespace Go.Proofs.Ytkfkfihjdohjfaa.Lift
open Go.ChangeShapes Go.WideShapes Go.ChangeAt Go.RowKit

section
variable {H : Type} {enc : TypeId × Value → H} {P : Program}

theorem trodAll_below (hl : laidOutB P = true) {W W' : World} (hb : Below W.heap.size W W') :
    ∀ (ts : List TypeId) (vs : List Value) (ds : List (DataW H)) (ps : List MemPlace), (∀ t ∈ ts, P.readableRec t = true ∧ t < P.types.size) →
      DataW.TrodAll enc P W 0 (fun _ => true) true ts vs ds ps → (∀ x ∈ ps, x.block < W.heap.size) →
      DataW.TrodAll enc P W' 0 (fun b => decide (b < W.heap.size)) true ts vs ds ps
  | [], [], [], _, _, h, _ => h
  | [], [], _ :: _, _, _, h, _ => h.elim
  | [], _ :: _, _, _, _, h, _ => h.elim
  | _ :: _, [], _, _, _, h, _ => h.elim
  | _ :: _, _ :: _, [], _, _, h, _ => h.elim
  | t :: ts, v :: vs, d :: ds, ps, hr, h, hlt => by
    obtain ⟨p, q, h1, h2, rfl⟩ := h
    have ht := hr t (List.mem_cons_self ..)
    exact ⟨p, q, Below.trod hl ht.1 ht.2 h1 hb (fun x hx => hlt x (List.mem_append.2 (.inl hx))),
      trodAll_below hl hb ts vs ds q (fun t h => hr t (List.mem_cons_of_mem _ h)) h2 (fun x hx => hlt x (List.mem_append.2 (.inr hx))), rfl⟩

theorem trodAll_length : ∀ (ts : List TypeId) (vs : List Value) (ds : List (DataW H)) (ps : List MemPlace) {W : World} {b : Nat} {sp : Nat → Bool} {hd : Bool}, DataW.TrodAll enc P W b sp hd ts vs ds ps → ds.length = ts.length ∧ vs.length = ts.length
  | [], [], [], _, _, _, _, _, _ => ⟨rfl, rfl⟩
  | [], [], _ :: _, _, _, _, _, _, h => h.elim
  | [], _ :: _, _, _, _, _, _, _, h => h.elim
  | _ :: _, [], _, _, _, _, _, _, h => h.elim
  | _ :: _, _ :: _, [], _, _, _, _, _, h => h.elim
  | _ :: ts, _ :: vs, _ :: ds, _, _, _, _, _, h => by
    obtain ⟨p, q, _, h2, rfl⟩ := h
    have := trodAll_length ts vs ds q h2
    simp [this]

/-- What a walk is told of its arguments. -/
structure Args (enc : TypeId × Value → H) (P : Program) (fn : Func) (W : World) (args : Array Value) (ds : List (DataW H)) (p : List MemPlace) : Prop where
  val : ∀ (j : Nat) t v, fn.params[j]? = some t → args[j]? = some v → ∃ base, Value.okWide P W .any base t v
  trod : DataW.TrodAll enc P W 0 (fun _ => true) true fn.params.toList args.toList ds p
  lt : ∀ x ∈ p, x.block < W.heap.size
  reach : (DataW.weightsEach P fn.params.toList ds).all (· ≤ reachBytes) = true
  free : W.noneFrozen p

theorem law {C : Checked} {os : Os} {f : FuncId} {fn : Func} {s : ChangeSpec} {tb : TypeId} (own : ownKnob C.prog.godebug = none) (started : os.Started) (noInit : C.prog.inits.idxOf? f = none) (hfn : C.prog.funcs[f]? = some fn)
    (witness : ∃ (w : World) (tape : Tape) (i : Input), w.os = os ∧ (w.forCall tape i).Shaped C.prog ∧ i.vars = [] ∧ Input.okWide C.prog (w.forCall tape i) .any w.heap.size f i ∧
      s.pre6 enc C.prog fn [] false (w.forCall tape i).memory i.args ∧ ({} : Assume).holds C.prog (lone (Frame.enter C.prog f i.args .normal) [] (w.forCall tape i)))
    (hvars : s.vars = []) (hres : fn.resultTypes = #[tb]) (htb : C.prog.underlying tb = some .bool) (hl : laidOutB C.prog = true)
    (hrb : (fn.params.toList.all fun t => C.prog.readableRec t && decide (t < C.prog.types.size)) = true)
    (hspec : ∀ ds : List (DataW H), ds.length = fn.params.toList.length → s.fn H ds = { results := [.lit (.bool true)], args := ds, vars := [] })
    (walk : ∀ (W : World) (args : Array Value) (ds : List (DataW H)) (p : List MemPlace), Args enc C.prog fn W args ds p →
      Calls C.prog f args W fun e W' => e = .returned (.bool true) ∧ Below W.heap.size W W') :
    ReturnsInHanded {} C os f .any (s.pre6 enc C.prog fn [] false) (s.post enc C.prog fn false true false false) := by
  have hrd : ∀ t ∈ fn.params.toList, C.prog.readableRec t = true ∧ t < C.prog.types.size := fun t ht => by
    have := List.all_eq_true.1 hrb t ht
    simpa using this
  refine returnsInHanded_of_change_sized own started noInit hfn witness ?_
  intro W base args ds gs before hval hW hcnd hsz _
  have hlt : ∀ x ∈ before, x.block < W.heap.size := fun x hx => hW.lt x hx
  have hW' := hW
  obtain ⟨p, q, hA, hV, rfl, hfz, hnd⟩ := hW
  rw [hvars] at hV
  obtain ⟨rfl, rfl⟩ := trodVars_none hV
  simp only [List.append_nil] at hlt hfz
  have hvt : s.plain.varTypes C.prog = [] := by simp [ChangeSpec.plain, DataSpec.varTypes, hvars]
  rw [hvt] at hsz
  simp only [List.append_nil] at hsz
  refine (walk W args ds p ⟨fun j t v hj hv => ⟨base, hval j t v hj hv⟩, hA, hlt, hsz, hfz⟩).mono fun e W' ⟨he, hb⟩ => ⟨_, he, ?_⟩
  have hds := (trodAll_length _ _ _ _ hA).1
  have hsp := hspec ds hds
  refine ⟨ds, [], _, [], p, [], hW', ?_, ?_, ?_, hb.frame _, fun h => by cases h⟩
  · rw [List.append_nil, hsp, hres]
    exact trodAll_cons_mk (shut_bool htb _) trodAll_mk0
  · rw [List.append_nil, hsp]
    exact trodAll_below hl hb _ _ _ _ hrd hA hlt
  · rw [List.append_nil, hsp, hvars]
    rfl
end
end Go.Proofs.Ytkfkfihjdohjfaa.Lift
end
