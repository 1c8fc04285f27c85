/-
  Arguments opened, whatever their depth: a struct or an array of one-cell parts, by value or as the element of a slice, as the list of its leaves. No program in sight.
-/
import Derived.Test.YtiolfkmkbccndaaGreatDoorKit
namespace Go.Proofs.YtiolfkmkbccndaaGreatDoor
open Go.ChangeShapes Go.WideShapes Go.ChangeAt Go.RowKit

/-- The types of the cells of a value of type t, structs and arrays taken apart. -/
def leaves (P : Program) : Nat → TypeId → Option (List TypeId)
  | 0, _ => none
  | d + 1, t =>
    match P.underlying t with
    | some (.struct fs) =>
      (fs.toList.foldl (fun acc f => acc.bind fun l => (leaves P d f.type).bind fun m => if f.offset = l.length ∧ P.cellsOf f.type = m.length then some (l ++ m) else none) (some [])).bind fun l => if P.cellsOf t = l.length then some l else none
    | some (.array n e) => (leaves P d e).bind fun l => if P.cellsOf e = l.length ∧ P.cellsOf t = n * l.length then some ((List.replicate n l).flatten) else none
    | some _ => if P.cellsOf t = 1 then some [t] else none
    | none => none

section
variable {H : Type} {enc : TypeId × Value → H} {P : Program} {w : World} {base : Nat} {spare : Nat → Bool} {held : Bool}

/-- Each leaf reads by its own type. -/
def LeavesOk (enc : TypeId × Value → H) (P : Program) (w : World) (base : Nat) (spare : Nat → Bool) (held : Bool) (ls : List TypeId) (cs : List Value) : Prop :=
  cs.length = ls.length ∧ ∀ (i : Nat) (t : TypeId), ls[i]? = some t → ∃ (v : Value) (f : Nat) (y : DataW H × List MemPlace), cs[i]? = some v ∧ DataW.trod enc P w base spare held f t [v] = some y

theorem LeavesOk.append {l m : List TypeId} {a b : List Value} (h1 : LeavesOk enc P w base spare held l a) (h2 : LeavesOk enc P w base spare held m b) : LeavesOk enc P w base spare held (l ++ m) (a ++ b) := by
  refine ⟨by rw [List.length_append, List.length_append, h1.1, h2.1], fun i t hi => ?_⟩
  by_cases h : i < l.length
  · rw [List.getElem?_append_left h] at hi
    obtain ⟨v, f, y, hv, hy⟩ := h1.2 i t hi
    exact ⟨v, f, y, by rw [List.getElem?_append_left (by rw [h1.1]; exact h)]; exact hv, hy⟩
  · rw [List.getElem?_append_right (by omega)] at hi
    obtain ⟨v, f, y, hv, hy⟩ := h2.2 _ t hi
    exact ⟨v, f, y, by rw [List.getElem?_append_right (by rw [h1.1]; omega), h1.1]; exact hv, hy⟩

theorem foldl_none (P : Program) (d : Nat) : ∀ fs : List Field, fs.foldl (fun acc f => acc.bind fun l => (leaves P d f.type).bind fun m => if f.offset = l.length ∧ P.cellsOf f.type = m.length then some (l ++ m) else none) (none : Option (List TypeId)) = none
  | [] => rfl
  | _ :: fs => foldl_none P d fs

theorem leaves_ok : ∀ (d : Nat) (t : TypeId) (ls : List TypeId) (fuel : Nat) (cs : List Value) (x : DataW H × List MemPlace), leaves P d t = some ls → DataW.trod enc P w base spare held fuel t cs = some x → cs.length = P.cellsOf t → LeavesOk enc P w base spare held ls cs
  | 0, _, _, _, _, _, h, _, _ => by cases h
  | d + 1, t, ls, fuel, cs, x, h, ht, hlen => by
    cases hu : P.underlying t with
    | none => simp [leaves, hu] at h
    | some u =>
      have plain : (if P.cellsOf t = 1 then some [t] else none) = some ls → LeavesOk enc P w base spare held ls cs := fun h => by
        split at h
        · rename_i h1
          have h2 : ls = [t] := (Option.some.inj h).symm
          subst h2
          refine ⟨by rw [hlen, h1]; rfl, fun i t' hi => ?_⟩
          match i, hi with
          | 0, hi =>
            simp at hi
            subst hi
            match cs, hlen.trans h1 with
            | [v], _ => exact ⟨v, fuel, x, rfl, ht⟩
          | i + 1, hi => simp at hi
        · cases h
      cases u with
      | struct fs =>
        simp only [leaves, hu] at h
        obtain ⟨xs, n, _, _, _, hxl, hf⟩ := DataW.trod_struct hu ht
        have key : ∀ (k : Nat) (l r : List TypeId), LeavesOk enc P w base spare held l (cs.take l.length) → l.length ≤ cs.length →
            (fs.toList.drop k).foldl (fun acc f => acc.bind fun l => (leaves P d f.type).bind fun m => if f.offset = l.length ∧ P.cellsOf f.type = m.length then some (l ++ m) else none) (some l) = some r →
            r.length ≤ cs.length → LeavesOk enc P w base spare held r (cs.take r.length) := by
          intro k
          induction hk : fs.size - k generalizing k with
          | zero =>
            intro l r h1 _ h2 _
            rw [List.drop_of_length_le (by rw [Array.length_toList]; omega)] at h2
            simp only [List.foldl_nil, Option.some.injEq] at h2
            subst h2
            exact h1
          | succ j ih =>
            intro l r h1 hl h2 hr
            have hkl : k < fs.size := by omega
            rw [List.drop_eq_getElem_cons (by rw [Array.length_toList]; exact hkl)] at h2
            simp only [List.foldl_cons, Option.bind_some, Array.getElem_toList] at h2
            cases hm : leaves P d fs[k].type with
            | none => rw [hm] at h2; simp only [Option.bind_none] at h2; rw [foldl_none] at h2; cases h2
            | some m =>
              rw [hm] at h2
              simp only [Option.bind_some] at h2
              split at h2
              · rename_i hc
                obtain ⟨ho, hcm⟩ := hc
                have hfk := hf k fs[k] (by simp [hkl])
                have hxk : k < xs.length := by omega
                rw [List.getElem?_eq_getElem hxk, ho, hcm] at hfk
                have hpre : (l ++ m).length ≤ r.length := by
                  have grow : ∀ (gs : List Field) (a b : List TypeId), gs.foldl (fun acc f => acc.bind fun l => (leaves P d f.type).bind fun m => if f.offset = l.length ∧ P.cellsOf f.type = m.length then some (l ++ m) else none) (some a) = some b → a.length ≤ b.length := by
                    intro gs
                    induction gs with
                    | nil => intro a b h; simp at h; subst h; exact Nat.le_refl _
                    | cons g gs ihg =>
                      intro a b h
                      simp only [List.foldl_cons, Option.bind_some] at h
                      cases hg : leaves P d g.type with
                      | none => rw [hg] at h; simp only [Option.bind_none] at h; rw [foldl_none] at h; cases h
                      | some mm =>
                        rw [hg] at h
                        simp only [Option.bind_some] at h
                        split at h
                        · have := ihg _ _ h
                          rw [List.length_append] at this
                          omega
                        · rw [foldl_none] at h; cases h
                  exact grow _ _ _ h2
                have hml : ((cs.drop l.length).take m.length).length = P.cellsOf fs[k].type := by
                  rw [List.length_append] at hpre
                  rw [List.length_take, List.length_drop, hcm]
                  omega
                have hsub := leaves_ok d fs[k].type m n _ _ hm hfk hml
                have happ := h1.append hsub
                have e : cs.take l.length ++ (cs.drop l.length).take m.length = cs.take (l ++ m).length := by
                  rw [List.length_append, List.take_add]
                rw [e] at happ
                exact ih (k + 1) (by omega) (l ++ m) r happ (by omega) h2 hr
              · rw [foldl_none] at h2; cases h2
        cases hfold : fs.toList.foldl (fun acc f => acc.bind fun l => (leaves P d f.type).bind fun m => if f.offset = l.length ∧ P.cellsOf f.type = m.length then some (l ++ m) else none) (some []) with
        | none => rw [hfold] at h; cases h
        | some l =>
          rw [hfold] at h
          simp only [Option.bind_some] at h
          split at h
          · rename_i hct
            have h2 : ls = l := (Option.some.inj h).symm
            subst h2
            have hll : cs.length = ls.length := hlen.trans hct
            have := key 0 [] ls ⟨by simp, by simp⟩ (by simp) (by simpa using hfold) (by omega)
            rwa [List.take_of_length_le (by omega)] at this
          · cases h
      | array n e =>
        simp only [leaves, hu] at h
        obtain ⟨xs, m, _, _, _, hxl, hf⟩ := DataW.trod_array hu ht
        cases hm : leaves P d e with
        | none => rw [hm] at h; cases h
        | some l =>
          rw [hm] at h
          simp only [Option.bind_some] at h
          split at h
          · rename_i hc
            obtain ⟨hce, hct⟩ := hc
            have h2 : ls = (List.replicate n l).flatten := (Option.some.inj h).symm
            subst h2
            have key : ∀ k, k ≤ n → LeavesOk enc P w base spare held (List.replicate k l).flatten (cs.take (k * l.length)) := by
              intro k
              induction k with
              | zero => intro _; exact ⟨by simp, by simp⟩
              | succ k ih =>
                intro hk
                have h1 := ih (by omega)
                have hfk := hf k (by omega)
                have hxk : k < xs.length := by omega
                rw [List.getElem?_eq_getElem hxk, hce] at hfk
                have hkn : (k + 1) * l.length ≤ n * l.length := Nat.mul_le_mul_right _ hk
                rw [Nat.add_mul, Nat.one_mul] at hkn
                have hml : ((cs.drop (k * l.length)).take l.length).length = P.cellsOf e := by
                  rw [List.length_take, List.length_drop, hlen, hct, hce]
                  omega
                have happ := h1.append (leaves_ok d e l m _ _ hm hfk hml)
                have e1 : cs.take (k * l.length) ++ (cs.drop (k * l.length)).take l.length = cs.take ((k + 1) * l.length) := by
                  rw [Nat.add_mul, Nat.one_mul, List.take_add]
                have e2 : (List.replicate k l).flatten ++ l = (List.replicate (k + 1) l).flatten := by
                  rw [List.replicate_succ', List.flatten_append]; simp
                rw [e1, e2] at happ
                exact happ
            have := key n (Nat.le_refl _)
            rwa [List.take_of_length_le (by rw [hlen, hct]; exact Nat.le_refl _)] at this
          · cases h
      | _ => simp only [leaves, hu] at h; exact plain h

/-- A struct or an array by value. -/
theorem open_val {t : TypeId} {ls : List TypeId} {r : Reach} {b0 : Nat} {v : Value} {x : DataW H} {p : List MemPlace} (d : Nat) (hl : leaves P d t = some ls) (hs : (match P.underlying t with | some (.struct _) | some (.array _ _) => true | _ => false) = true)
    (hv : Value.okWide P w r b0 t v) (h : DataW.Trod enc P w base spare held t v x p) : ∃ cs : List Value, v = .agg cs.toArray ∧ LeavesOk enc P w base spare held ls cs := by
  obtain ⟨fuel, hf⟩ := h
  have hagg : ∃ cs, v = .agg cs ∧ cs.size = P.cellsOf t := by
    cases hu : P.underlying t with
    | none => rw [hu] at hs; cases hs
    | some u =>
      rw [hu] at hs
      cases u <;> first | (cases hs; done) | skip
      · simp only [Value.okWide, hu] at hv
        obtain ⟨cs, h1, h2, _⟩ := hv
        exact ⟨cs, h1, h2⟩
      · simp only [Value.okWide, hu] at hv
        obtain ⟨cs, h1, h2, _⟩ := hv
        exact ⟨cs, h1, h2⟩
  obtain ⟨cs, rfl, hsz⟩ := hagg
  exact ⟨cs.toList, by simp, leaves_ok d t ls fuel _ _ hl hf (by simpa [Value.cells] using hsz)⟩

theorem exists_list {α : Type} (n : Nat) (p : Nat → α → Prop) (h : ∀ i, i < n → ∃ a, p i a) : ∃ l : List α, l.length = n ∧ ∀ i a, l[i]? = some a → p i a := by
  induction n with
  | zero => exact ⟨[], rfl, by simp⟩
  | succ n ih =>
    obtain ⟨l, hl, hp⟩ := ih (fun i hi => h i (by omega))
    obtain ⟨a, ha⟩ := h n (by omega)
    refine ⟨l ++ [a], by simp [hl], fun i b hb => ?_⟩
    by_cases hi : i < n
    · rw [List.getElem?_append_left (by omega)] at hb; exact hp i b hb
    · rw [List.getElem?_append_right (by omega), hl] at hb
      have h0 : i - n = 0 := by
        rcases Nat.eq_zero_or_pos (i - n) with h | h
        · exact h
        · rw [List.getElem?_eq_none (by simp; omega)] at hb; cases hb
      rw [h0] at hb
      simp at hb
      subst hb
      have : i = n := by omega
      subst this
      exact ha

/-- A slice whose elements are structs (or arrays, or one cell each): the list of what they are. -/
theorem open_slice_of {α : Type} (f : α → List Value) (good : α → Prop) {t e : TypeId} {ls : List TypeId} (d : Nat) {v : Value} {x : DataW H} {p : List MemPlace} {r : Reach} {b0 : Nat} (ht : P.underlying t = some (.slice e)) (hl : leaves P d e = some ls) (hc : P.cellsOf e = ls.length) (hpos : 0 < ls.length)
    (hf : ∀ a, (f a).length = ls.length) (hmk : ∀ cs, LeavesOk enc P w 0 (fun _ => true) true ls cs → ∃ a, cs = f a ∧ good a)
    (hv : Value.okWide P w r b0 t v) (h : DataW.Trod enc P w 0 (fun _ => true) true t v x p) :
    ∃ (A : Option Addr) (n c : Nat) (l : List α), v = .slice A n c ∧ n ≤ c ∧ c ≤ maxLen ∧ l.length = n ∧ Reads w w.heap.size ls.length A n (l.flatMap f) ∧ (∀ a ∈ l, good a) ∧ (A = none → c = 0) := by
  obtain ⟨a0, len, cap, rfl⟩ := okWide_slice ht hv
  obtain ⟨fuel, hfu⟩ := h
  rcases Deep.open_slice ht hfu with ⟨hcs, _⟩ | ⟨a, len', cap', m, k, D, Pl, hcs, _, hlc, hcm, hmm, _, hi⟩
  · simp [Value.cells] at hcs
    obtain ⟨rfl, rfl, rfl⟩ := hcs
    exact ⟨none, 0, 0, [], rfl, Nat.le_refl _, Nat.zero_le _, rfl, Reads.none_, by simp, fun _ => rfl⟩
  · simp [Value.cells] at hcs
    obtain ⟨rfl, rfl, rfl⟩ := hcs
    simp only [if_true] at hmm
    subst hmm
    have each : ∀ i, i < len → ∃ b : α, good b ∧ ∀ j u, (f b)[j]? = some u → w.cell? (a.add (i * ls.length + j)) = some u := by
      intro i hil
      obtain ⟨cs', h1, h2⟩ := hi i (by omega)
      obtain ⟨_, h3, h4⟩ := World.cells?_some h1
      obtain ⟨b, rfl, hg⟩ := hmk cs' (leaves_ok d e ls _ _ _ hl h2 (h3.trans rfl))
      refine ⟨b, hg, fun j u hu => ?_⟩
      have hj : j < P.cellsOf e := by
        rcases Nat.lt_or_ge j (f b).length with h | h
        · rw [h3] at h; exact h
        · rw [List.getElem?_eq_none h] at hu; cases hu
      have := h4 j hj
      rw [add_of_add, hc] at this
      rw [this, hu]
    obtain ⟨l, hll, hlp⟩ := exists_list len _ each
    refine ⟨some a, _, _, l, rfl, hlc, hcm, hll, ⟨by rw [flat_length f ls.length hf, hll], fun hn => ?_⟩, fun b hb => ?_, by simp⟩
    · obtain ⟨b, hb⟩ : ∃ b, l[0]? = some b := ⟨_, List.getElem?_eq_getElem (by omega)⟩
      obtain ⟨u, hu⟩ : ∃ u, (f b)[0]? = some u := ⟨_, List.getElem?_eq_getElem (by rw [hf]; exact hpos)⟩
      have hc0 := (hlp 0 b hb).2 0 u hu
      obtain ⟨bb, off, spot⟩ := a
      have hspot : spot = none := by simpa [Addr.add] using World.cell?_spot hc0
      subst hspot
      refine ⟨bb, off, rfl, World.block_lt_of_cell? w _ (by simpa [Addr.add] using hc0), fun j u hu => ?_⟩
      have hjl : j < l.length * ls.length := by
        rcases Nat.lt_or_ge j (l.flatMap f).length with h | h
        · rwa [flat_length f ls.length hf] at h
        · rw [List.getElem?_eq_none h] at hu; cases hu
      have hdm := Nat.div_add_mod' j ls.length
      have hq : j / ls.length < l.length := Nat.div_lt_of_lt_mul (by rw [Nat.mul_comm]; exact hjl)
      have hb' : l[j / ls.length]? = some (l[j / ls.length]'hq) := List.getElem?_eq_getElem hq
      rw [← hdm, flat_get f ls.length hf l _ _ _ hb' (Nat.mod_lt _ hpos)] at hu
      have := (hlp _ _ hb').2 _ u hu
      rw [add_plain, hdm] at this
      exact this
    · obtain ⟨i, hil⟩ := List.getElem?_of_mem hb
      exact (hlp i b hil).1

theorem ints1 {t : TypeId} {cs : List Value} (ht : P.underlying t = some (.int .i64)) (h : LeavesOk enc P w base spare held [t] cs) : ∃ e0 : Int, cs = [.int .i64 e0] ∧ i64ok e0 := by
  obtain ⟨hl, h⟩ := h
  match cs, hl with
  | [c0], _ =>
    obtain ⟨v, f, y, hv, hy⟩ := h 0 t rfl
    obtain ⟨n0, q, _, wf0⟩ := DataW.trod_int ht hy
    simp at hv q
    subst hv
    subst q
    exact ⟨n0, rfl, wf_i64 wf0⟩

theorem ints2 {t : TypeId} {cs : List Value} (ht : P.underlying t = some (.int .i64)) (h : LeavesOk enc P w base spare held [t, t] cs) : ∃ e0 e1 : Int, cs = [.int .i64 e0, .int .i64 e1] ∧ i64ok e0 ∧ i64ok e1 := by
  obtain ⟨hl, h⟩ := h
  match cs, hl with
  | [c0, c1], _ =>
    obtain ⟨v, f, y, hv, hy⟩ := h 0 t rfl
    obtain ⟨n0, q, _, wf0⟩ := DataW.trod_int ht hy
    simp at hv q
    subst hv
    subst q
    obtain ⟨v, f, y, hv, hy⟩ := h 1 t rfl
    obtain ⟨n1, q, _, wf1⟩ := DataW.trod_int ht hy
    simp at hv q
    subst hv
    subst q
    exact ⟨n0, n1, rfl, wf_i64 wf0, wf_i64 wf1⟩

theorem ints3 {t : TypeId} {cs : List Value} (ht : P.underlying t = some (.int .i64)) (h : LeavesOk enc P w base spare held [t, t, t] cs) : ∃ e0 e1 e2 : Int, cs = [.int .i64 e0, .int .i64 e1, .int .i64 e2] ∧ i64ok e0 ∧ i64ok e1 ∧ i64ok e2 := by
  obtain ⟨hl, h⟩ := h
  match cs, hl with
  | [c0, c1, c2], _ =>
    obtain ⟨v, f, y, hv, hy⟩ := h 0 t rfl
    obtain ⟨n0, q, _, wf0⟩ := DataW.trod_int ht hy
    simp at hv q
    subst hv
    subst q
    obtain ⟨v, f, y, hv, hy⟩ := h 1 t rfl
    obtain ⟨n1, q, _, wf1⟩ := DataW.trod_int ht hy
    simp at hv q
    subst hv
    subst q
    obtain ⟨v, f, y, hv, hy⟩ := h 2 t rfl
    obtain ⟨n2, q, _, wf2⟩ := DataW.trod_int ht hy
    simp at hv q
    subst hv
    subst q
    exact ⟨n0, n1, n2, rfl, wf_i64 wf0, wf_i64 wf1, wf_i64 wf2⟩

theorem ints4 {t : TypeId} {cs : List Value} (ht : P.underlying t = some (.int .i64)) (h : LeavesOk enc P w base spare held [t, t, t, t] cs) : ∃ e0 e1 e2 e3 : Int, cs = [.int .i64 e0, .int .i64 e1, .int .i64 e2, .int .i64 e3] ∧ i64ok e0 ∧ i64ok e1 ∧ i64ok e2 ∧ i64ok e3 := by
  obtain ⟨hl, h⟩ := h
  match cs, hl with
  | [c0, c1, c2, c3], _ =>
    obtain ⟨v, f, y, hv, hy⟩ := h 0 t rfl
    obtain ⟨n0, q, _, wf0⟩ := DataW.trod_int ht hy
    simp at hv q
    subst hv
    subst q
    obtain ⟨v, f, y, hv, hy⟩ := h 1 t rfl
    obtain ⟨n1, q, _, wf1⟩ := DataW.trod_int ht hy
    simp at hv q
    subst hv
    subst q
    obtain ⟨v, f, y, hv, hy⟩ := h 2 t rfl
    obtain ⟨n2, q, _, wf2⟩ := DataW.trod_int ht hy
    simp at hv q
    subst hv
    subst q
    obtain ⟨v, f, y, hv, hy⟩ := h 3 t rfl
    obtain ⟨n3, q, _, wf3⟩ := DataW.trod_int ht hy
    simp at hv q
    subst hv
    subst q
    exact ⟨n0, n1, n2, n3, rfl, wf_i64 wf0, wf_i64 wf1, wf_i64 wf2, wf_i64 wf3⟩

theorem ints5 {t : TypeId} {cs : List Value} (ht : P.underlying t = some (.int .i64)) (h : LeavesOk enc P w base spare held [t, t, t, t, t] cs) : ∃ e0 e1 e2 e3 e4 : Int, cs = [.int .i64 e0, .int .i64 e1, .int .i64 e2, .int .i64 e3, .int .i64 e4] ∧ i64ok e0 ∧ i64ok e1 ∧ i64ok e2 ∧ i64ok e3 ∧ i64ok e4 := by
  obtain ⟨hl, h⟩ := h
  match cs, hl with
  | [c0, c1, c2, c3, c4], _ =>
    obtain ⟨v, f, y, hv, hy⟩ := h 0 t rfl
    obtain ⟨n0, q, _, wf0⟩ := DataW.trod_int ht hy
    simp at hv q
    subst hv
    subst q
    obtain ⟨v, f, y, hv, hy⟩ := h 1 t rfl
    obtain ⟨n1, q, _, wf1⟩ := DataW.trod_int ht hy
    simp at hv q
    subst hv
    subst q
    obtain ⟨v, f, y, hv, hy⟩ := h 2 t rfl
    obtain ⟨n2, q, _, wf2⟩ := DataW.trod_int ht hy
    simp at hv q
    subst hv
    subst q
    obtain ⟨v, f, y, hv, hy⟩ := h 3 t rfl
    obtain ⟨n3, q, _, wf3⟩ := DataW.trod_int ht hy
    simp at hv q
    subst hv
    subst q
    obtain ⟨v, f, y, hv, hy⟩ := h 4 t rfl
    obtain ⟨n4, q, _, wf4⟩ := DataW.trod_int ht hy
    simp at hv q
    subst hv
    subst q
    exact ⟨n0, n1, n2, n3, n4, rfl, wf_i64 wf0, wf_i64 wf1, wf_i64 wf2, wf_i64 wf3, wf_i64 wf4⟩

theorem ints6 {t : TypeId} {cs : List Value} (ht : P.underlying t = some (.int .i64)) (h : LeavesOk enc P w base spare held [t, t, t, t, t, t] cs) : ∃ e0 e1 e2 e3 e4 e5 : Int, cs = [.int .i64 e0, .int .i64 e1, .int .i64 e2, .int .i64 e3, .int .i64 e4, .int .i64 e5] ∧ i64ok e0 ∧ i64ok e1 ∧ i64ok e2 ∧ i64ok e3 ∧ i64ok e4 ∧ i64ok e5 := by
  obtain ⟨hl, h⟩ := h
  match cs, hl with
  | [c0, c1, c2, c3, c4, c5], _ =>
    obtain ⟨v, f, y, hv, hy⟩ := h 0 t rfl
    obtain ⟨n0, q, _, wf0⟩ := DataW.trod_int ht hy
    simp at hv q
    subst hv
    subst q
    obtain ⟨v, f, y, hv, hy⟩ := h 1 t rfl
    obtain ⟨n1, q, _, wf1⟩ := DataW.trod_int ht hy
    simp at hv q
    subst hv
    subst q
    obtain ⟨v, f, y, hv, hy⟩ := h 2 t rfl
    obtain ⟨n2, q, _, wf2⟩ := DataW.trod_int ht hy
    simp at hv q
    subst hv
    subst q
    obtain ⟨v, f, y, hv, hy⟩ := h 3 t rfl
    obtain ⟨n3, q, _, wf3⟩ := DataW.trod_int ht hy
    simp at hv q
    subst hv
    subst q
    obtain ⟨v, f, y, hv, hy⟩ := h 4 t rfl
    obtain ⟨n4, q, _, wf4⟩ := DataW.trod_int ht hy
    simp at hv q
    subst hv
    subst q
    obtain ⟨v, f, y, hv, hy⟩ := h 5 t rfl
    obtain ⟨n5, q, _, wf5⟩ := DataW.trod_int ht hy
    simp at hv q
    subst hv
    subst q
    exact ⟨n0, n1, n2, n3, n4, n5, rfl, wf_i64 wf0, wf_i64 wf1, wf_i64 wf2, wf_i64 wf3, wf_i64 wf4, wf_i64 wf5⟩

theorem ints7 {t : TypeId} {cs : List Value} (ht : P.underlying t = some (.int .i64)) (h : LeavesOk enc P w base spare held [t, t, t, t, t, t, t] cs) : ∃ e0 e1 e2 e3 e4 e5 e6 : Int, cs = [.int .i64 e0, .int .i64 e1, .int .i64 e2, .int .i64 e3, .int .i64 e4, .int .i64 e5, .int .i64 e6] ∧ i64ok e0 ∧ i64ok e1 ∧ i64ok e2 ∧ i64ok e3 ∧ i64ok e4 ∧ i64ok e5 ∧ i64ok e6 := by
  obtain ⟨hl, h⟩ := h
  match cs, hl with
  | [c0, c1, c2, c3, c4, c5, c6], _ =>
    obtain ⟨v, f, y, hv, hy⟩ := h 0 t rfl
    obtain ⟨n0, q, _, wf0⟩ := DataW.trod_int ht hy
    simp at hv q
    subst hv
    subst q
    obtain ⟨v, f, y, hv, hy⟩ := h 1 t rfl
    obtain ⟨n1, q, _, wf1⟩ := DataW.trod_int ht hy
    simp at hv q
    subst hv
    subst q
    obtain ⟨v, f, y, hv, hy⟩ := h 2 t rfl
    obtain ⟨n2, q, _, wf2⟩ := DataW.trod_int ht hy
    simp at hv q
    subst hv
    subst q
    obtain ⟨v, f, y, hv, hy⟩ := h 3 t rfl
    obtain ⟨n3, q, _, wf3⟩ := DataW.trod_int ht hy
    simp at hv q
    subst hv
    subst q
    obtain ⟨v, f, y, hv, hy⟩ := h 4 t rfl
    obtain ⟨n4, q, _, wf4⟩ := DataW.trod_int ht hy
    simp at hv q
    subst hv
    subst q
    obtain ⟨v, f, y, hv, hy⟩ := h 5 t rfl
    obtain ⟨n5, q, _, wf5⟩ := DataW.trod_int ht hy
    simp at hv q
    subst hv
    subst q
    obtain ⟨v, f, y, hv, hy⟩ := h 6 t rfl
    obtain ⟨n6, q, _, wf6⟩ := DataW.trod_int ht hy
    simp at hv q
    subst hv
    subst q
    exact ⟨n0, n1, n2, n3, n4, n5, n6, rfl, wf_i64 wf0, wf_i64 wf1, wf_i64 wf2, wf_i64 wf3, wf_i64 wf4, wf_i64 wf5, wf_i64 wf6⟩

theorem ints8 {t : TypeId} {cs : List Value} (ht : P.underlying t = some (.int .i64)) (h : LeavesOk enc P w base spare held [t, t, t, t, t, t, t, t] cs) : ∃ e0 e1 e2 e3 e4 e5 e6 e7 : Int, cs = [.int .i64 e0, .int .i64 e1, .int .i64 e2, .int .i64 e3, .int .i64 e4, .int .i64 e5, .int .i64 e6, .int .i64 e7] ∧ i64ok e0 ∧ i64ok e1 ∧ i64ok e2 ∧ i64ok e3 ∧ i64ok e4 ∧ i64ok e5 ∧ i64ok e6 ∧ i64ok e7 := by
  obtain ⟨hl, h⟩ := h
  match cs, hl with
  | [c0, c1, c2, c3, c4, c5, c6, c7], _ =>
    obtain ⟨v, f, y, hv, hy⟩ := h 0 t rfl
    obtain ⟨n0, q, _, wf0⟩ := DataW.trod_int ht hy
    simp at hv q
    subst hv
    subst q
    obtain ⟨v, f, y, hv, hy⟩ := h 1 t rfl
    obtain ⟨n1, q, _, wf1⟩ := DataW.trod_int ht hy
    simp at hv q
    subst hv
    subst q
    obtain ⟨v, f, y, hv, hy⟩ := h 2 t rfl
    obtain ⟨n2, q, _, wf2⟩ := DataW.trod_int ht hy
    simp at hv q
    subst hv
    subst q
    obtain ⟨v, f, y, hv, hy⟩ := h 3 t rfl
    obtain ⟨n3, q, _, wf3⟩ := DataW.trod_int ht hy
    simp at hv q
    subst hv
    subst q
    obtain ⟨v, f, y, hv, hy⟩ := h 4 t rfl
    obtain ⟨n4, q, _, wf4⟩ := DataW.trod_int ht hy
    simp at hv q
    subst hv
    subst q
    obtain ⟨v, f, y, hv, hy⟩ := h 5 t rfl
    obtain ⟨n5, q, _, wf5⟩ := DataW.trod_int ht hy
    simp at hv q
    subst hv
    subst q
    obtain ⟨v, f, y, hv, hy⟩ := h 6 t rfl
    obtain ⟨n6, q, _, wf6⟩ := DataW.trod_int ht hy
    simp at hv q
    subst hv
    subst q
    obtain ⟨v, f, y, hv, hy⟩ := h 7 t rfl
    obtain ⟨n7, q, _, wf7⟩ := DataW.trod_int ht hy
    simp at hv q
    subst hv
    subst q
    exact ⟨n0, n1, n2, n3, n4, n5, n6, n7, rfl, wf_i64 wf0, wf_i64 wf1, wf_i64 wf2, wf_i64 wf3, wf_i64 wf4, wf_i64 wf5, wf_i64 wf6, wf_i64 wf7⟩
end
end Go.Proofs.YtiolfkmkbccndaaGreatDoor
