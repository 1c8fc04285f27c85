/- A law's call out of its summary: the arguments as objects that are only read. -/
import Derived.Test.YtoflfgcdagoobaaDoorSym20
import Derived.Test.YtoflfgcdagoobaaDoorOpen
namespace Go.Proofs.YtoflfgcdagoobaaDoor.Sym
open Go.ChangeShapes Go.WideShapes Go.ChangeAt Go.RowKit

section
variable {cod : Nat → Codec} {P : Program}
def HObj.isInp : HObj cod → Bool
  | .inp _ _ => true
  | _ => false
def hv0 : HV := ⟨0, 0, 0, .tuple #[]⟩
def envOf (xs : List HV) : Env := fun h => xs.getD h hv0
theorem law_call {g : FuncId} {s : Summ cod} (hs : Sound P cod g s) {args : List SV} {H : Heap cod} (xs : List HV) {vs : List Value} {w : World} (hg : (s args H).gives (.c (.bool true), [])) (hin : H.all HObj.isInp = true)
    (hobj : F2 (fun (o : HObj cod) x => objRel (envOf xs) H.length x w (newIn w) o) H xs) (hargs : F2 (vrel (envOf xs) H.length) args vs) (hT : TabW w (newIn w) := by exact fun _ h => by cases h) : Calls P g vs.toArray w fun e w' => e = .returned (.bool true) ∧ Below w.heap.size w w' := by
  have hro : H.all (fun o => !o.wr) = true := List.all_eq_true.2 fun o ho => by
    have := List.all_eq_true.1 hin o ho
    cases o <;> simp_all [HObj.isInp, HObj.wr]
  have G : Good (envOf xs) H w (newIn w) := by
    refine ⟨fun h o ho => ?_, fun h h' o o' b _ ho _ hw _ => ?_, hT⟩
    · have key : ∀ (H' : Heap cod) (xs' : List HV) (h : Nat) (o : HObj cod), F2 (fun (o : HObj cod) x => objRel (envOf xs) H.length x w (newIn w) o) H' xs' → H'[h]? = some o → objRel (envOf xs) H.length (xs'.getD h hv0) w (newIn w) o := by
        intro H' xs' h o hf
        induction hf generalizing h with
        | nil => intro h1; simp at h1
        | cons h1 _ ih =>
          intro h2
          cases h with
          | zero =>
            simp only [List.getElem?_cons_zero, Option.some.injEq] at h2
            subst h2
            exact h1
          | succ h =>
            simp only [List.getElem?_cons_succ] at h2
            simpa using ih h h2
      exact key H xs h o hobj ho
    · have := List.all_eq_true.1 hro o (List.mem_of_getElem? ho)
      rw [hw] at this
      cases this
  refine (hs.calls args H (envOf xs) w vs (.c (.bool true)) [] hro G hargs hg).mono ?_
  rintro e w' ⟨v, env', rfl, _, hv, _, hb⟩
  have hv' : v = .bool true := hv
  subst hv'
  exact ⟨rfl, hb.below⟩
/-- What a slice that is only read is taken as. -/
def hvOf (size : Nat) : Option Addr → HV
  | some a => ⟨a.block, a.off, size, .tuple #[]⟩
  | none => ⟨0, 0, size, .tuple #[]⟩
theorem inp_rel {env : Env} {N t : Nat} {M : Nat → Prop} {w : World} {A : Option Addr} {n : Nat} {l : List (cod t).α} (hr : Reads w w.heap.size (cod t).size A n (vals (cod t) l)) (hl : l.length = n) : objRel env N (hvOf (cod t).size A) w M (.inp t l) := by
  obtain ⟨_, h2⟩ := hr
  have hes : (hvOf (cod t).size A).esize = (cod t).size := by cases A <;> rfl
  refine ⟨hes, ?_, fun hne => ?_⟩
  · intro j u hu
    rcases Nat.eq_zero_or_pos n with h | h
    · rw [h] at hl
      rw [List.length_eq_zero_iff.1 hl] at hu
      simp [vals] at hu
    · obtain ⟨b, off, rfl, _, hc⟩ := h2 h
      exact hc j u hu
  · obtain ⟨b, off, rfl, hb, _⟩ := h2 (by
      have := List.length_pos_iff.2 hne
      omega)
    exact hb
theorem slc_rel {env : Env} {N k t : Nat} {w : World} {A : Option Addr} {n c : Nat} {l : List (cod t).α} (he : env k = hvOf (cod t).size A) (hk : k < N) (hr : Reads w w.heap.size (cod t).size A n (vals (cod t) l)) (hc : n ≤ c) (hm : c ≤ maxLen) : vrel env N (.c (.slc k 0 n false)) (.slice A n c) := by
  refine ⟨hk, A, c, rfl, hc, hm, by simp, fun hn => ?_⟩
  obtain ⟨b, off, rfl, _⟩ := hr.2 hn
  rw [he]
  simp [hvOf, HV.addr]
theorem crels_ints {env : Env} {N : Nat} : ∀ l : List Int, crels env N (ints l) (l.map (.int .i64))
  | [] => .nil
  | _ :: l => .cons rfl (crels_ints l)
theorem vrel_ints {env : Env} {N : Nat} (l : List Int) {cs : List Value} (h : cs = l.map (.int .i64)) : vrel env N (.agg (ints l)) (.agg cs.toArray) := ⟨_, rfl, by rw [h]; exact crels_ints l⟩
theorem vrel_int {env : Env} {N : Nat} (n : Int) : vrel env N (.c (.int .i64 n)) (.int .i64 n) := rfl
theorem ints_any {H : Type} {enc : TypeId × Value → H} {w : World} {base : Nat} {spare : Nat → Bool} {held : Bool} {t : TypeId} (ht : P.underlying t = some (.int .i64)) : ∀ (n : Nat) {cs : List Value}, LeavesOk enc P w base spare held (List.replicate n t) cs → ∃ l : List Int, l.length = n ∧ cs = l.map (.int .i64) ∧ ∀ x ∈ l, Sym.i64ok x
  | 0, cs, h => by
    match cs, h.1 with
    | [], _ => exact ⟨[], rfl, rfl, by simp⟩
  | n + 1, cs, h => by
    obtain ⟨hl, h⟩ := h
    match cs, hl with
    | c0 :: cs, hl =>
      obtain ⟨v, f, y, hv, hy⟩ := h 0 t (by simp [List.replicate_succ])
      obtain ⟨n0, q, _, wf0⟩ := DataW.trod_int ht hy
      simp at hv q
      subst hv
      subst q
      obtain ⟨l, h1, h2, h3⟩ := ints_any ht n (cs := cs) ⟨by simpa using hl, fun i t' hi => by
        have := h (i + 1) t' (by simpa [List.replicate_succ] using hi)
        simpa using this⟩
      have := wf_i64 wf0
      exact ⟨n0 :: l, by simp [h1], by rw [h2]; rfl, by simpa [Sym.i64ok, i64ok] using ⟨this, h3⟩⟩
end
end Go.Proofs.YtoflfgcdagoobaaDoor.Sym
