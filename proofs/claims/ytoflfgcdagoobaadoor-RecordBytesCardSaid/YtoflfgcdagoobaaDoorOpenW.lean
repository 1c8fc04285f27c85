/-
  How long the strings of an argument are: no longer than what its reading weighs.
-/
import Derived.Test.YtoflfgcdagoobaaDoorOpen
namespace Go.Proofs.YtoflfgcdagoobaaDoor
open Go.ChangeShapes Go.WideShapes Go.ChangeAt Go.RowKit

section
variable {H : Type} {enc : TypeId × Value → H} {P : Program} {w : World} {base : Nat} {spare : Nat → Bool} {held : Bool} {B : Nat}
def Short (B : Nat) (cs : List Value) : Prop := ∀ v ∈ cs, ∀ s : ByteArray, v = .string s → s.size ≤ B
theorem Short.append {a b : List Value} (h : Short B a) (k : Short B b) : Short B (a ++ b) := fun v hv => (List.mem_append.1 hv).elim (h v) (k v)
theorem weightsEach_mem : ∀ {ts : List TypeId} {ds : List (DataW H)} {i : Nat} {t : TypeId} {d : DataW H} {q : Nat}, ts[i]? = some t → ds[i]? = some d → q ∈ d.weights P t → q ∈ DataW.weightsEach P ts ds
  | [], _, _, _, _, _, h, _, _ => by simp at h
  | _ :: _, [], _, _, _, _, _, h, _ => by simp at h
  | t :: ts, d :: ds, 0, _, _, _, h1, h2, hq => by
    simp at h1 h2
    subst h1
    subst h2
    simp only [DataW.weightsEach]
    exact List.mem_append.2 (.inl hq)
  | t :: ts, d :: ds, i + 1, _, _, _, h1, h2, hq => by
    simp only [DataW.weightsEach]
    exact List.mem_append.2 (.inr (weightsEach_mem (i := i) (by simpa using h1) (by simpa using h2) hq))
theorem weightsAll_mem {e : TypeId} : ∀ {ds : List (DataW H)} {i : Nat} {d : DataW H} {q : Nat}, ds[i]? = some d → q ∈ d.weights P e → q ∈ DataW.weightsAll P e ds
  | [], _, _, _, h, _ => by simp at h
  | d :: ds, 0, _, _, h2, hq => by
    simp at h2
    subst h2
    simp only [DataW.weightsAll]
    exact List.mem_append.2 (.inl hq)
  | d :: ds, i + 1, _, _, h2, hq => by
    simp only [DataW.weightsAll]
    exact List.mem_append.2 (.inr (weightsAll_mem (i := i) (by simpa using h2) hq))
theorem leaves_len : ∀ (d : Nat) (t : TypeId) (ls : List TypeId) (fuel : Nat) (cs : List Value) (x : DataW H × List MemPlace), leaves P d t = some ls → DataW.trod enc P w base spare held fuel t cs = some x → cs.length = P.cellsOf t → (∀ n ∈ x.1.weights P t, n ≤ B) → Short B cs
  | 0, _, _, _, _, _, h, _, _, _ => by cases h
  | d + 1, t, ls, fuel, cs, x, h, ht, hlen, hB => by
    cases hu : P.underlying t with
    | none => simp [leaves, hu] at h
    | some u =>
      have plain : (∀ fs, u ≠ .struct fs) → (∀ n e, u ≠ .array n e) → (if P.cellsOf t = 1 then some [t] else none) = some ls → Short B cs := fun n1 n2 h => by
        split at h
        · rename_i h1
          have h2 : ls = [t] := (Option.some.inj h).symm
          subst h2
          match cs, hlen.trans h1 with
          | [v], _ =>
            intro v' hv' s hs
            obtain rfl : v' = v := by simpa using hv'
            subst hs
            by_cases hus : u = .string
            · subst hus
              obtain ⟨s', e1, rfl, _⟩ := DataW.trod_string hu ht
              simp only [List.cons.injEq, Value.string.injEq, and_true] at e1
              subst e1
              have := hB s.data.toList.length (by show _ ∈ [_]; exact List.mem_singleton.2 rfl)
              exact (by simpa using this : s.data.toList.length ≤ B) |> fun q => by rwa [Array.length_toList] at q
            · cases fuel with
              | zero => simp [DataW.trod] at ht
              | succ fuel =>
                unfold DataW.trod at ht
                rw [hu] at ht
                cases u <;> first | exact absurd rfl (n1 _) | exact absurd rfl (n2 _ _) | exact absurd rfl hus | exact absurd (show (none : Option (DataW H × List MemPlace)) = some x from ht) (fun e => by cases e)
        · cases h
      cases u with
      | struct fs =>
        simp only [leaves, hu] at h
        obtain ⟨xs, n, _, rfl, _, hxl, hf⟩ := DataW.trod_struct hu ht
        have key : ∀ (k : Nat) (l r : List TypeId), Short B (cs.take l.length) → l.length ≤ cs.length →
            (fs.toList.drop k).foldl (fun acc f => acc.bind fun l => (leaves P d f.type).bind fun m => if f.offset = l.length ∧ P.cellsOf f.type = m.length then some (l ++ m) else none) (some l) = some r →
            r.length ≤ cs.length → Short B (cs.take r.length) := by
          intro k
          induction hk : fs.size - k generalizing k with
          | zero =>
            intro l r h1 _ h2 _
            rw [List.drop_of_length_le (by rw [Array.length_toList]; omega)] at h2
            simp only [List.foldl_nil, Option.some.injEq] at h2
            subst h2
            exact h1
          | succ j ih =>
            intro l r h1 hl h2 hr
            have hkl : k < fs.size := by omega
            rw [List.drop_eq_getElem_cons (by rw [Array.length_toList]; exact hkl)] at h2
            simp only [List.foldl_cons, Option.bind_some, Array.getElem_toList] at h2
            cases hm : leaves P d fs[k].type with
            | none => rw [hm] at h2; simp only [Option.bind_none] at h2; rw [foldl_none] at h2; cases h2
            | some m =>
              rw [hm] at h2
              simp only [Option.bind_some] at h2
              split at h2
              · rename_i hc
                obtain ⟨ho, hcm⟩ := hc
                have hfk := hf k fs[k] (by simp [hkl])
                have hxk : k < xs.length := by omega
                rw [List.getElem?_eq_getElem hxk, ho, hcm] at hfk
                have hpre : (l ++ m).length ≤ r.length := by
                  have grow : ∀ (gs : List Field) (a b : List TypeId), gs.foldl (fun acc f => acc.bind fun l => (leaves P d f.type).bind fun m => if f.offset = l.length ∧ P.cellsOf f.type = m.length then some (l ++ m) else none) (some a) = some b → a.length ≤ b.length := by
                    intro gs
                    induction gs with
                    | nil => intro a b h; simp at h; subst h; exact Nat.le_refl _
                    | cons g gs ihg =>
                      intro a b h
                      simp only [List.foldl_cons, Option.bind_some] at h
                      cases hg : leaves P d g.type with
                      | none => rw [hg] at h; simp only [Option.bind_none] at h; rw [foldl_none] at h; cases h
                      | some mm =>
                        rw [hg] at h
                        simp only [Option.bind_some] at h
                        split at h
                        · have := ihg _ _ h
                          rw [List.length_append] at this
                          omega
                        · rw [foldl_none] at h; cases h
                  exact grow _ _ _ h2
                have hml : ((cs.drop l.length).take m.length).length = P.cellsOf fs[k].type := by
                  rw [List.length_append] at hpre
                  rw [List.length_take, List.length_drop, hcm]
                  omega
                have hsub := leaves_len d fs[k].type m n _ _ hm hfk hml (fun q hq => hB q (by
                  simp only [DataW.weights, hu]
                  exact weightsEach_mem (by rw [List.getElem?_map, Array.getElem?_toList, Array.getElem?_eq_getElem hkl]; rfl) (by rw [List.getElem?_map, List.getElem?_eq_getElem hxk]; rfl) hq))
                have happ := h1.append hsub
                have e : cs.take l.length ++ (cs.drop l.length).take m.length = cs.take (l ++ m).length := by
                  rw [List.length_append, List.take_add]
                rw [e] at happ
                exact ih (k + 1) (by omega) (l ++ m) r happ (by omega) h2 hr
              · rw [foldl_none] at h2; cases h2
        cases hfold : fs.toList.foldl (fun acc f => acc.bind fun l => (leaves P d f.type).bind fun m => if f.offset = l.length ∧ P.cellsOf f.type = m.length then some (l ++ m) else none) (some []) with
        | none => rw [hfold] at h; cases h
        | some l =>
          rw [hfold] at h
          simp only [Option.bind_some] at h
          split at h
          · rename_i hct
            have h2 : ls = l := (Option.some.inj h).symm
            subst h2
            have hll : cs.length = ls.length := hlen.trans hct
            have := key 0 [] ls (by intro v hv; simp at hv) (by simp) (by simpa using hfold) (by omega)
            rwa [List.take_of_length_le (by omega)] at this
          · cases h
      | array n e =>
        simp only [leaves, hu] at h
        obtain ⟨xs, m, _, rfl, _, hxl, hf⟩ := DataW.trod_array hu ht
        cases hm : leaves P d e with
        | none => rw [hm] at h; cases h
        | some l =>
          rw [hm] at h
          simp only [Option.bind_some] at h
          split at h
          · rename_i hc
            obtain ⟨hce, hct⟩ := hc
            have h2 : ls = (List.replicate n l).flatten := (Option.some.inj h).symm
            subst h2
            have key : ∀ k, k ≤ n → Short B (cs.take (k * l.length)) := by
              intro k
              induction k with
              | zero => intro _; exact (by intro v hv; simp at hv)
              | succ k ih =>
                intro hk
                have h1 := ih (by omega)
                have hfk := hf k (by omega)
                have hxk : k < xs.length := by omega
                rw [List.getElem?_eq_getElem hxk, hce] at hfk
                have hkn : (k + 1) * l.length ≤ n * l.length := Nat.mul_le_mul_right _ hk
                rw [Nat.add_mul, Nat.one_mul] at hkn
                have hml : ((cs.drop (k * l.length)).take l.length).length = P.cellsOf e := by
                  rw [List.length_take, List.length_drop, hlen, hct, hce]
                  omega
                have happ := h1.append (leaves_len d e l m _ _ hm hfk hml (fun q hq => hB q (by
                  simp only [DataW.weights, hu]
                  exact weightsAll_mem (by rw [List.getElem?_map, List.getElem?_eq_getElem hxk]; rfl) hq)))
                have e1 : cs.take (k * l.length) ++ (cs.drop (k * l.length)).take l.length = cs.take ((k + 1) * l.length) := by
                  rw [Nat.add_mul, Nat.one_mul, List.take_add]
                have e2 : (List.replicate k l).flatten ++ l = (List.replicate (k + 1) l).flatten := by
                  rw [List.replicate_succ', List.flatten_append]; simp
                rw [e1] at happ
                exact happ
            have := key n (Nat.le_refl _)
            rwa [List.take_of_length_le (by rw [hlen, hct]; exact Nat.le_refl _)] at this
          · cases h
      | _ => simp only [leaves, hu] at h; exact plain (fun _ h => by cases h) (fun _ _ h => by cases h) h


/-- A struct or an array by value: its strings are no longer than what is weighed. -/
theorem val_short {t : TypeId} {ls : List TypeId} {r : Reach} {b0 : Nat} {v : Value} {x : DataW H} {p : List MemPlace} (d : Nat) (hl : leaves P d t = some ls) (hs : (match P.underlying t with | some (.struct _) | some (.array _ _) => true | _ => false) = true)
    (hv : Value.okWide P w r b0 t v) (h : DataW.Trod enc P w base spare held t v x p) (hB : ∀ n ∈ x.weights P t, n ≤ B) : ∀ cs : List Value, v = .agg cs.toArray → Short B cs := by
  intro cs hcs
  obtain ⟨fuel, hf⟩ := h
  have hsz : cs.length = P.cellsOf t := by
    cases hu : P.underlying t with
    | none => rw [hu] at hs; cases hs
    | some u =>
      rw [hu] at hs
      cases u <;> first | (cases hs; done) | skip
      · simp only [Value.okWide, hu] at hv
        obtain ⟨cs', h1, h2, _⟩ := hv
        rw [hcs] at h1
        cases h1
        simpa using h2
      · simp only [Value.okWide, hu] at hv
        obtain ⟨cs', h1, h2, _⟩ := hv
        rw [hcs] at h1
        cases h1
        simpa using h2
  subst hcs
  exact leaves_len d t ls fuel _ _ hl hf (by simpa [Value.cells] using hsz) hB
end
end Go.Proofs.YtoflfgcdagoobaaDoor
