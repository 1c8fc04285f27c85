/- Parts of the proof, one behind the other: OpenW, OpenS. -/
import Derived.Test.YtoflfgcdagoobaaDoorOpen
import Derived.Test.YtoflfgcdagoobaaDoorBd46
section
/-
  How long the strings of an argument are: no longer than what its reading weighs.
-/
namespace Go.Proofs.YtoflfgcdagoobaaDoor
open Go.ChangeShapes Go.WideShapes Go.ChangeAt Go.RowKit

section
variable {H : Type} {enc : TypeId × Value → H} {P : Program} {w : World} {base : Nat} {spare : Nat → Bool} {held : Bool} {B : Nat}
def Short (B : Nat) (cs : List Value) : Prop := ∀ v ∈ cs, ∀ s : ByteArray, v = .string s → s.size ≤ B
theorem Short.append {a b : List Value} (h : Short B a) (k : Short B b) : Short B (a ++ b) := fun v hv => (List.mem_append.1 hv).elim (h v) (k v)
theorem weightsEach_mem : ∀ {ts : List TypeId} {ds : List (DataW H)} {i : Nat} {t : TypeId} {d : DataW H} {q : Nat}, ts[i]? = some t → ds[i]? = some d → q ∈ d.weights P t → q ∈ DataW.weightsEach P ts ds
  | [], _, _, _, _, _, h, _, _ => by simp at h
  | _ :: _, [], _, _, _, _, _, h, _ => by simp at h
  | t :: ts, d :: ds, 0, _, _, _, h1, h2, hq => by
    simp at h1 h2
    subst h1
    subst h2
    simp only [DataW.weightsEach]
    exact List.mem_append.2 (.inl hq)
  | t :: ts, d :: ds, i + 1, _, _, _, h1, h2, hq => by
    simp only [DataW.weightsEach]
    exact List.mem_append.2 (.inr (weightsEach_mem (i := i) (by simpa using h1) (by simpa using h2) hq))
theorem weightsAll_mem {e : TypeId} : ∀ {ds : List (DataW H)} {i : Nat} {d : DataW H} {q : Nat}, ds[i]? = some d → q ∈ d.weights P e → q ∈ DataW.weightsAll P e ds
  | [], _, _, _, h, _ => by simp at h
  | d :: ds, 0, _, _, h2, hq => by
    simp at h2
    subst h2
    simp only [DataW.weightsAll]
    exact List.mem_append.2 (.inl hq)
  | d :: ds, i + 1, _, _, h2, hq => by
    simp only [DataW.weightsAll]
    exact List.mem_append.2 (.inr (weightsAll_mem (i := i) (by simpa using h2) hq))
theorem leaves_len : ∀ (d : Nat) (t : TypeId) (ls : List TypeId) (fuel : Nat) (cs : List Value) (x : DataW H × List MemPlace), leaves P d t = some ls → DataW.trod enc P w base spare held fuel t cs = some x → cs.length = P.cellsOf t → (∀ n ∈ x.1.weights P t, n ≤ B) → Short B cs
  | 0, _, _, _, _, _, h, _, _, _ => by cases h
  | d + 1, t, ls, fuel, cs, x, h, ht, hlen, hB => by
    cases hu : P.underlying t with
    | none => simp [leaves, hu] at h
    | some u =>
      have plain : (∀ fs, u ≠ .struct fs) → (∀ n e, u ≠ .array n e) → (if P.cellsOf t = 1 then some [t] else none) = some ls → Short B cs := fun n1 n2 h => by
        split at h
        · rename_i h1
          have h2 : ls = [t] := (Option.some.inj h).symm
          subst h2
          match cs, hlen.trans h1 with
          | [v], _ =>
            intro v' hv' s hs
            obtain rfl : v' = v := by simpa using hv'
            subst hs
            by_cases hus : u = .string
            · subst hus
              obtain ⟨s', e1, rfl, _⟩ := DataW.trod_string hu ht
              simp only [List.cons.injEq, Value.string.injEq, and_true] at e1
              subst e1
              have := hB s.data.toList.length (by show _ ∈ [_]; exact List.mem_singleton.2 rfl)
              exact (by simpa using this : s.data.toList.length ≤ B) |> fun q => by rwa [Array.length_toList] at q
            · cases fuel with
              | zero => simp [DataW.trod] at ht
              | succ fuel =>
                unfold DataW.trod at ht
                rw [hu] at ht
                cases u <;> first | exact absurd rfl (n1 _) | exact absurd rfl (n2 _ _) | exact absurd rfl hus | exact absurd (show (none : Option (DataW H × List MemPlace)) = some x from ht) (fun e => by cases e)
        · cases h
      cases u with
      | struct fs =>
        simp only [leaves, hu] at h
        obtain ⟨xs, n, _, rfl, _, hxl, hf⟩ := DataW.trod_struct hu ht
        have key : ∀ (k : Nat) (l r : List TypeId), Short B (cs.take l.length) → l.length ≤ cs.length →
            (fs.toList.drop k).foldl (fun acc f => acc.bind fun l => (leaves P d f.type).bind fun m => if f.offset = l.length ∧ P.cellsOf f.type = m.length then some (l ++ m) else none) (some l) = some r →
            r.length ≤ cs.length → Short B (cs.take r.length) := by
          intro k
          induction hk : fs.size - k generalizing k with
          | zero =>
            intro l r h1 _ h2 _
            rw [List.drop_of_length_le (by rw [Array.length_toList]; omega)] at h2
            simp only [List.foldl_nil, Option.some.injEq] at h2
            subst h2
            exact h1
          | succ j ih =>
            intro l r h1 hl h2 hr
            have hkl : k < fs.size := by omega
            rw [List.drop_eq_getElem_cons (by rw [Array.length_toList]; exact hkl)] at h2
            simp only [List.foldl_cons, Option.bind_some, Array.getElem_toList] at h2
            cases hm : leaves P d fs[k].type with
            | none => rw [hm] at h2; simp only [Option.bind_none] at h2; rw [foldl_none] at h2; cases h2
            | some m =>
              rw [hm] at h2
              simp only [Option.bind_some] at h2
              split at h2
              · rename_i hc
                obtain ⟨ho, hcm⟩ := hc
                have hfk := hf k fs[k] (by simp [hkl])
                have hxk : k < xs.length := by omega
                rw [List.getElem?_eq_getElem hxk, ho, hcm] at hfk
                have hpre : (l ++ m).length ≤ r.length := by
                  have grow : ∀ (gs : List Field) (a b : List TypeId), gs.foldl (fun acc f => acc.bind fun l => (leaves P d f.type).bind fun m => if f.offset = l.length ∧ P.cellsOf f.type = m.length then some (l ++ m) else none) (some a) = some b → a.length ≤ b.length := by
                    intro gs
                    induction gs with
                    | nil => intro a b h; simp at h; subst h; exact Nat.le_refl _
                    | cons g gs ihg =>
                      intro a b h
                      simp only [List.foldl_cons, Option.bind_some] at h
                      cases hg : leaves P d g.type with
                      | none => rw [hg] at h; simp only [Option.bind_none] at h; rw [foldl_none] at h; cases h
                      | some mm =>
                        rw [hg] at h
                        simp only [Option.bind_some] at h
                        split at h
                        · have := ihg _ _ h
                          rw [List.length_append] at this
                          omega
                        · rw [foldl_none] at h; cases h
                  exact grow _ _ _ h2
                have hml : ((cs.drop l.length).take m.length).length = P.cellsOf fs[k].type := by
                  rw [List.length_append] at hpre
                  rw [List.length_take, List.length_drop, hcm]
                  omega
                have hsub := leaves_len d fs[k].type m n _ _ hm hfk hml (fun q hq => hB q (by
                  simp only [DataW.weights, hu]
                  exact weightsEach_mem (by rw [List.getElem?_map, Array.getElem?_toList, Array.getElem?_eq_getElem hkl]; rfl) (by rw [List.getElem?_map, List.getElem?_eq_getElem hxk]; rfl) hq))
                have happ := h1.append hsub
                have e : cs.take l.length ++ (cs.drop l.length).take m.length = cs.take (l ++ m).length := by
                  rw [List.length_append, List.take_add]
                rw [e] at happ
                exact ih (k + 1) (by omega) (l ++ m) r happ (by omega) h2 hr
              · rw [foldl_none] at h2; cases h2
        cases hfold : fs.toList.foldl (fun acc f => acc.bind fun l => (leaves P d f.type).bind fun m => if f.offset = l.length ∧ P.cellsOf f.type = m.length then some (l ++ m) else none) (some []) with
        | none => rw [hfold] at h; cases h
        | some l =>
          rw [hfold] at h
          simp only [Option.bind_some] at h
          split at h
          · rename_i hct
            have h2 : ls = l := (Option.some.inj h).symm
            subst h2
            have hll : cs.length = ls.length := hlen.trans hct
            have := key 0 [] ls (by intro v hv; simp at hv) (by simp) (by simpa using hfold) (by omega)
            rwa [List.take_of_length_le (by omega)] at this
          · cases h
      | array n e =>
        simp only [leaves, hu] at h
        obtain ⟨xs, m, _, rfl, _, hxl, hf⟩ := DataW.trod_array hu ht
        cases hm : leaves P d e with
        | none => rw [hm] at h; cases h
        | some l =>
          rw [hm] at h
          simp only [Option.bind_some] at h
          split at h
          · rename_i hc
            obtain ⟨hce, hct⟩ := hc
            have h2 : ls = (List.replicate n l).flatten := (Option.some.inj h).symm
            subst h2
            have key : ∀ k, k ≤ n → Short B (cs.take (k * l.length)) := by
              intro k
              induction k with
              | zero => intro _; exact (by intro v hv; simp at hv)
              | succ k ih =>
                intro hk
                have h1 := ih (by omega)
                have hfk := hf k (by omega)
                have hxk : k < xs.length := by omega
                rw [List.getElem?_eq_getElem hxk, hce] at hfk
                have hkn : (k + 1) * l.length ≤ n * l.length := Nat.mul_le_mul_right _ hk
                rw [Nat.add_mul, Nat.one_mul] at hkn
                have hml : ((cs.drop (k * l.length)).take l.length).length = P.cellsOf e := by
                  rw [List.length_take, List.length_drop, hlen, hct, hce]
                  omega
                have happ := h1.append (leaves_len d e l m _ _ hm hfk hml (fun q hq => hB q (by
                  simp only [DataW.weights, hu]
                  exact weightsAll_mem (by rw [List.getElem?_map, List.getElem?_eq_getElem hxk]; rfl) hq)))
                have e1 : cs.take (k * l.length) ++ (cs.drop (k * l.length)).take l.length = cs.take ((k + 1) * l.length) := by
                  rw [Nat.add_mul, Nat.one_mul, List.take_add]
                have e2 : (List.replicate k l).flatten ++ l = (List.replicate (k + 1) l).flatten := by
                  rw [List.replicate_succ', List.flatten_append]; simp
                rw [e1] at happ
                exact happ
            have := key n (Nat.le_refl _)
            rwa [List.take_of_length_le (by rw [hlen, hct]; exact Nat.le_refl _)] at this
          · cases h
      | _ => simp only [leaves, hu] at h; exact plain (fun _ h => by cases h) (fun _ _ h => by cases h) h


/-- A struct or an array by value: its strings are no longer than what is weighed. -/
theorem val_short {t : TypeId} {ls : List TypeId} {r : Reach} {b0 : Nat} {v : Value} {x : DataW H} {p : List MemPlace} (d : Nat) (hl : leaves P d t = some ls) (hs : (match P.underlying t with | some (.struct _) | some (.array _ _) => true | _ => false) = true)
    (hv : Value.okWide P w r b0 t v) (h : DataW.Trod enc P w base spare held t v x p) (hB : ∀ n ∈ x.weights P t, n ≤ B) : ∀ cs : List Value, v = .agg cs.toArray → Short B cs := by
  intro cs hcs
  obtain ⟨fuel, hf⟩ := h
  have hsz : cs.length = P.cellsOf t := by
    cases hu : P.underlying t with
    | none => rw [hu] at hs; cases hs
    | some u =>
      rw [hu] at hs
      cases u <;> first | (cases hs; done) | skip
      · simp only [Value.okWide, hu] at hv
        obtain ⟨cs', h1, h2, _⟩ := hv
        rw [hcs] at h1
        cases h1
        simpa using h2
      · simp only [Value.okWide, hu] at hv
        obtain ⟨cs', h1, h2, _⟩ := hv
        rw [hcs] at h1
        cases h1
        simpa using h2
  subst hcs
  exact leaves_len d t ls fuel _ _ hl hf (by simpa [Value.cells] using hsz) hB
end
end Go.Proofs.YtoflfgcdagoobaaDoor
end
section
/-
  A slice argument whose elements hold strings: how long they are at most.
-/
namespace Go.Proofs.YtoflfgcdagoobaaDoor
open Go.ChangeShapes Go.WideShapes Go.ChangeAt Go.RowKit

section
variable {H : Type} {enc : TypeId × Value → H} {P : Program} {w : World}
theorem open_slice_short {α : Type} (f : α → List Value) (good : α → Prop) {t e : TypeId} {ls : List TypeId} (d : Nat) {v : Value} {x : DataW H} {p : List MemPlace} {r : Reach} {b0 : Nat} (ht : P.underlying t = some (.slice e)) (hl : leaves P d e = some ls) (hc : P.cellsOf e = ls.length) (hpos : 0 < ls.length)
    (hf : ∀ a, (f a).length = ls.length) (hmk : ∀ cs, LeavesOk enc P w 0 (fun _ => true) true ls cs → ∃ a, cs = f a ∧ good a)
    (hv : Value.okWide P w r b0 t v) (h : DataW.Trod enc P w 0 (fun _ => true) true t v x p) {B : Nat} (hB : ∀ n ∈ x.weights P t, n ≤ B) :
    ∃ (A : Option Addr) (n c : Nat) (l : List α), v = .slice A n c ∧ n ≤ c ∧ c ≤ maxLen ∧ l.length = n ∧ Reads w w.heap.size ls.length A n (l.flatMap f) ∧ (∀ a ∈ l, good a ∧ Short B (f a)) ∧ (A = none → c = 0) := by
  obtain ⟨a0, len, cap, rfl⟩ := okWide_slice ht hv
  obtain ⟨fuel, hfu⟩ := h
  rcases Deep.open_slice ht hfu with ⟨hcs, _⟩ | ⟨a, len', cap', m, k, D, Pl, hcs, _, hlc, hcm, hmm, hxx, hi⟩
  · simp [Value.cells] at hcs
    obtain ⟨rfl, rfl, rfl⟩ := hcs
    exact ⟨none, 0, 0, [], rfl, Nat.le_refl _, Nat.zero_le _, rfl, Reads.none_, by simp, fun _ => rfl⟩
  · simp [Value.cells] at hcs
    obtain ⟨rfl, rfl, rfl⟩ := hcs
    simp only [if_true] at hmm
    subst hmm
    have each : ∀ i, i < len → ∃ b : α, (good b ∧ Short B (f b)) ∧ ∀ j u, (f b)[j]? = some u → w.cell? (a.add (i * ls.length + j)) = some u := by
      intro i hil
      obtain ⟨cs', h1, h2⟩ := hi i (by omega)
      obtain ⟨_, h3, h4⟩ := World.cells?_some h1
      have hsh : Short B cs' := leaves_len d e ls _ _ _ hl h2 (h3.trans rfl) (fun q hq => hB q (by
        have hx := (Prod.mk.inj hxx).1
        rw [hx]
        simp only [DataW.weights, ht]
        exact List.mem_cons.2 (.inr (List.mem_append.2 (.inl (weightsAll_mem (i := i) (by rw [List.getElem?_map, List.getElem?_range hil]; rfl) hq))))))
      obtain ⟨b, rfl, hg⟩ := hmk cs' (leaves_ok d e ls _ _ _ hl h2 (h3.trans rfl))
      refine ⟨b, ⟨hg, hsh⟩, fun j u hu => ?_⟩
      have hj : j < P.cellsOf e := by
        rcases Nat.lt_or_ge j (f b).length with h | h
        · rw [h3] at h; exact h
        · rw [List.getElem?_eq_none h] at hu; cases hu
      have := h4 j hj
      rw [add_of_add, hc] at this
      rw [this, hu]
    obtain ⟨l, hll, hlp⟩ := exists_list len _ each
    refine ⟨some a, _, _, l, rfl, hlc, hcm, hll, ⟨by rw [flat_length f ls.length hf, hll], fun hn => ?_⟩, fun b hb => ?_, by simp⟩
    · obtain ⟨b, hb⟩ : ∃ b, l[0]? = some b := ⟨_, List.getElem?_eq_getElem (by omega)⟩
      obtain ⟨u, hu⟩ : ∃ u, (f b)[0]? = some u := ⟨_, List.getElem?_eq_getElem (by rw [hf]; exact hpos)⟩
      have hc0 := (hlp 0 b hb).2 0 u hu
      obtain ⟨bb, off, spot⟩ := a
      have hspot : spot = none := by simpa [Addr.add] using World.cell?_spot hc0
      subst hspot
      refine ⟨bb, off, rfl, World.block_lt_of_cell? w _ (by simpa [Addr.add] using hc0), fun j u hu => ?_⟩
      have hjl : j < l.length * ls.length := by
        rcases Nat.lt_or_ge j (l.flatMap f).length with h | h
        · rwa [flat_length f ls.length hf] at h
        · rw [List.getElem?_eq_none h] at hu; cases hu
      have hdm := Nat.div_add_mod' j ls.length
      have hq : j / ls.length < l.length := Nat.div_lt_of_lt_mul (by rw [Nat.mul_comm]; exact hjl)
      have hb' : l[j / ls.length]? = some (l[j / ls.length]'hq) := List.getElem?_eq_getElem hq
      rw [← hdm, flat_get f ls.length hf l _ _ _ hb' (Nat.mod_lt _ hpos)] at hu
      have := (hlp _ _ hb').2 _ u hu
      rw [add_plain, hdm] at this
      exact this
    · obtain ⟨i, hil⟩ := List.getElem?_of_mem hb
      exact (hlp i b hil).1

theorem str_short {base : Nat} {spare : Nat → Bool} {held : Bool} {B : Nat} {t : TypeId} (ht : P.underlying t = some .string) {s : ByteArray} {x : DataW H} {p : List MemPlace} (h : DataW.Trod enc P w base spare held t (.string s) x p) (hB : ∀ n ∈ x.weights P t, n ≤ B) : s.data.toList.length ≤ B := by
  obtain ⟨fuel, hf⟩ := h
  obtain ⟨s', e1, e2, _⟩ := DataW.trod_string ht hf
  have e1' : [Value.string s] = [Value.string s'] := e1
  simp only [List.cons.injEq, Value.string.injEq, and_true] at e1'
  subst e1'
  have hx := (Prod.mk.inj e2).1
  exact hB s.data.toList.length (by rw [hx]; exact List.mem_singleton.2 rfl)
end
end Go.Proofs.YtoflfgcdagoobaaDoor
namespace Go.Proofs.YtoflfgcdagoobaaDoor.Sym
open Go.ChangeShapes Go.WideShapes Go.ChangeAt Go.RowKit

section
variable {cod : Nat → Codec} {H : Type} {enc : TypeId × Value → H} {P : Program} {w : World}
theorem in_sliceS (u : Nat) {t : TypeId} (e : TypeId) (Q : (cod u).α → Prop) {ks : List Nat} {v : Value} {x : DataW H} {p : List MemPlace} {r : Reach} {b0 : Nat} (ht : P.underlying t = some (.slice e)) (hl : leaves P 9 e = some (leavesD P e)) (hk : kindsT P (leavesD P e) = some ks) (hc : P.cellsOf e = (leavesD P e).length)
    (hz : (leavesD P e).length = (cod u).size) (hok : ∀ cells, F2 kcell ks cells → (cod u).ok cells = true ∧ Q ((cod u).dec cells))
    (hv : Value.okWide P w r b0 t v) (h : DataW.Trod enc P w 0 (fun _ => true) true t v x p) {B : Nat} (hB : ∀ n ∈ x.weights P t, n ≤ B) :
    ∃ (A : Option Addr) (c : Nat) (l : List (cod u).α), v = .slice A l.length c ∧ l.length ≤ c ∧ c ≤ maxLen ∧ Reads w w.heap.size (cod u).size A l.length (vals (cod u) l) ∧ ∀ a ∈ l, Q a ∧ Short B (((cod u).enc a).map Cell.val) := by
  have hf : ∀ a : (cod u).α, (((cod u).enc a).map Cell.val).length = (leavesD P e).length := fun a => by rw [List.length_map, (cod u).size_eq, hz]
  obtain ⟨A, n, c, l, h1, h2, h3, h4, h5, h6, _⟩ := open_slice_short (fun a => ((cod u).enc a).map Cell.val) Q 9 ht hl hc (by rw [hz]; exact (cod u).pos) hf (fun cs hcs => by
    obtain ⟨cells, g1, g2⟩ := leaves_any _ hcs hk
    exact ⟨(cod u).dec cells, by rw [(cod u).ok_spec _ (hok _ g1).1, g2], (hok _ g1).2⟩) hv h hB
  subst h4
  refine ⟨A, c, l, h1, h2, h3, ?_, h6⟩
  rw [hz] at h5
  unfold vals
  rw [List.map_flatMap]
  exact h5
end
end Go.Proofs.YtoflfgcdagoobaaDoor.Sym
end
