/- A law's arguments, whatever their leaves: ints, bools, strings; by value, or as a slice's elements. -/
import Derived.Test.YtoflfgcdagoobaaDoorSym21
namespace Go.Proofs.YtoflfgcdagoobaaDoor.Sym
open Go.ChangeShapes Go.WideShapes Go.ChangeAt Go.RowKit

section
variable {cod : Nat → Codec} {H : Type} {enc : TypeId × Value → H} {P : Program} {w : World} {base : Nat} {spare : Nat → Bool} {held : Bool}
def kindT (P : Program) (t : TypeId) : Option Nat :=
  match P.underlying t with
  | some (.int .i64) => some 0
  | some .bool => some 1
  | some .string => some 2
  | _ => none
def kindsT (P : Program) : List TypeId → Option (List Nat)
  | [] => some []
  | t :: l => match kindT P t, kindsT P l with
    | some k, some ks => some (k :: ks)
    | _, _ => none
def kcell : Nat → Cell → Prop
  | 0, c => ∃ n, c = .int .i64 n ∧ i64ok n
  | 1, c => ∃ b, c = .bool b
  | 2, c => ∃ s, c = .str s ∧ s.length ≤ maxLen
  | _, _ => False
theorem kcell_scal : ∀ {k : Nat} {c : Cell}, kcell k c → c.scalar = true
  | 0, _, ⟨_, h, _⟩ => by rw [h]; rfl
  | 1, _, ⟨_, h⟩ => by rw [h]; rfl
  | 2, _, ⟨_, h, _⟩ => by rw [h]; rfl
  | _ + 3, _, h => h.elim
theorem kcells_scal : ∀ {ks : List Nat} {cs : List Cell}, F2 kcell ks cs → cs.all Cell.scalar = true
  | _, _, .nil => rfl
  | _, _, .cons h t => by simp [kcell_scal h, kcells_scal t]
theorem leaf_any {t : TypeId} {k f : Nat} {v : Value} {y : DataW H × List MemPlace} (hk : kindT P t = some k) (h : DataW.trod enc P w base spare held f t [v] = some y) : ∃ c, kcell k c ∧ v = c.val := by
  unfold kindT at hk
  split at hk
  · rename_i ht
    cases hk
    obtain ⟨n, q, _, wf0⟩ := DataW.trod_int ht h
    simp at q
    subst q
    exact ⟨_, ⟨n, rfl, wf_i64 wf0⟩, rfl⟩
  · rename_i ht
    cases hk
    obtain ⟨b, q, _⟩ := DataW.trod_bool ht h
    simp at q
    subst q
    exact ⟨_, ⟨b, rfl⟩, rfl⟩
  · rename_i ht
    cases hk
    obtain ⟨s, q, _, hs⟩ := DataW.trod_string ht h
    simp at q
    subst q
    exact ⟨.str s.data.toList, ⟨_, rfl, by rw [Array.length_toList]; exact hs⟩, rfl⟩
  · cases hk
theorem leaves_any : ∀ (ls : List TypeId) {ks : List Nat} {cs : List Value}, LeavesOk enc P w base spare held ls cs → kindsT P ls = some ks → ∃ cells, F2 kcell ks cells ∧ cs = cells.map Cell.val
  | [], ks, cs, h, hk => by
    cases hk
    match cs, h.1 with
    | [], _ => exact ⟨[], .nil, rfl⟩
  | t :: ls, ks, cs, h, hk => by
    unfold kindsT at hk
    split at hk
    · rename_i k ks' e1 e2
      cases hk
      obtain ⟨hl, h⟩ := h
      match cs, hl with
      | c0 :: cs, hl =>
        obtain ⟨v, f, y, hv, hy⟩ := h 0 t (by simp)
        simp at hv
        subst hv
        obtain ⟨c, h1, h2⟩ := leaf_any e1 hy
        obtain ⟨cells, h3, h4⟩ := leaves_any ls (cs := cs) ⟨by simpa using hl, fun i t' hi => by
          have := h (i + 1) t' (by simpa using hi)
          simpa using this⟩ e2
        exact ⟨c :: cells, .cons h1 h3, by rw [h2, h4]; rfl⟩
    · cases hk
theorem kc0 {ks : List Nat} {cs : List Cell} (h : F2 kcell (0 :: ks) cs) : ∃ n r, cs = .int .i64 n :: r ∧ i64ok n ∧ F2 kcell ks r := by
  cases h with
  | cons h t =>
    obtain ⟨n, rfl, hn⟩ := h
    exact ⟨n, _, rfl, hn, t⟩
theorem kc1 {ks : List Nat} {cs : List Cell} (h : F2 kcell (1 :: ks) cs) : ∃ n r, cs = .bool n :: r ∧ True ∧ F2 kcell ks r := by
  cases h with
  | cons h t =>
    obtain ⟨n, rfl⟩ := h
    exact ⟨n, _, rfl, trivial, t⟩
theorem kc2 {ks : List Nat} {cs : List Cell} (h : F2 kcell (2 :: ks) cs) : ∃ n r, cs = .str n :: r ∧ n.length ≤ maxLen ∧ F2 kcell ks r := by
  cases h with
  | cons h t =>
    obtain ⟨n, rfl, hn⟩ := h
    exact ⟨n, _, rfl, hn, t⟩
theorem kcn {cs : List Cell} (h : F2 kcell [] cs) : cs = [] := by
  cases h
  rfl
def leavesD (P : Program) (t : TypeId) : List TypeId := (leaves P 9 t).getD []
/-- A struct or an array by value. -/
theorem in_val {t : TypeId} {ks : List Nat} {r : Reach} {b0 : Nat} {v : Value} {x : DataW H} {p : List MemPlace} (hl : leaves P 9 t = some (leavesD P t)) (hk : kindsT P (leavesD P t) = some ks)
    (hs : (match P.underlying t with | some (.struct _) | some (.array _ _) => true | _ => false) = true) (hv : Value.okWide P w r b0 t v) (h : DataW.Trod enc P w base spare held t v x p) : ∃ cells, v = .agg (cells.map Cell.val).toArray ∧ F2 kcell ks cells := by
  obtain ⟨c0, hc, k0⟩ := open_val 9 hl hs hv h
  obtain ⟨cells, h1, h2⟩ := leaves_any _ k0 hk
  exact ⟨cells, by rw [hc, h2], h1⟩
theorem vrel_scal {env : Env} {N : Nat} {cs : List Cell} (h : cs.all Cell.scalar = true) : vrel env N (.agg cs) (.agg (cs.map Cell.val).toArray) := ⟨_, rfl, scalars_rel h⟩
theorem vrel_bool {env : Env} {N : Nat} (b : Bool) : vrel env N (.c (.bool b)) (.bool b) := rfl
theorem vrel_str {env : Env} {N : Nat} (s : ByteArray) : vrel env N (.c (.str s.data.toList)) (.string s) := rfl
/-- A slice's elements. -/
theorem in_slice (u : Nat) {t : TypeId} (e : TypeId) {ks : List Nat} {v : Value} {x : DataW H} {p : List MemPlace} {r : Reach} {b0 : Nat} (ht : P.underlying t = some (.slice e)) (hl : leaves P 9 e = some (leavesD P e)) (hk : kindsT P (leavesD P e) = some ks) (hc : P.cellsOf e = (leavesD P e).length)
    (hz : (leavesD P e).length = (cod u).size) (hok : ∀ cells, F2 kcell ks cells → (cod u).ok cells = true)
    (hv : Value.okWide P w r b0 t v) (h : DataW.Trod enc P w 0 (fun _ => true) true t v x p) :
    ∃ (A : Option Addr) (c : Nat) (l : List (cod u).α), v = .slice A l.length c ∧ l.length ≤ c ∧ c ≤ maxLen ∧ Reads w w.heap.size (cod u).size A l.length (vals (cod u) l) := by
  have hf : ∀ a : (cod u).α, (((cod u).enc a).map Cell.val).length = (leavesD P e).length := fun a => by rw [List.length_map, (cod u).size_eq, hz]
  obtain ⟨A, n, c, l, h1, h2, h3, h4, h5, _, _⟩ := open_slice_of (fun a => ((cod u).enc a).map Cell.val) (fun _ => True) 9 ht hl hc (by rw [hz]; exact (cod u).pos) hf (fun cs hcs => by
    obtain ⟨cells, g1, g2⟩ := leaves_any _ hcs hk
    exact ⟨(cod u).dec cells, by rw [(cod u).ok_spec _ (hok _ g1), g2], trivial⟩) hv h
  subst h4
  refine ⟨A, c, l, h1, h2, h3, ?_⟩
  rw [hz] at h5
  unfold vals
  rw [List.map_flatMap]
  exact h5
end
end Go.Proofs.YtoflfgcdagoobaaDoor.Sym
