/- Parts of the proof, one behind the other: SnP, Xe. -/
import Derived.Sort.Walk0
import Derived.Test.YtoflfgcdagoobaaDoorBd24
import Derived.Test.YtoflfgcdagoobaaDoorBd25
import Derived.Lib.Bytealg
import Derived.WalkSpells
import Derived.WalkLawsBesides
import Derived.Handy
import Derived.Lib.Walk
import Derived.Test.YtoflfgcdagoobaaDoorProg
section
/- Rows of a state in the order of their keys: where a key is, what is there, a row put in, a row taken out. -/
namespace Go.Proofs.YtoflfgcdagoobaaDoor
namespace F
abbrev Str := List UInt8
abbrev Row := List UInt8 × List UInt8
def lt (a b : List UInt8) : Bool := Op.bytesLess a b
def r0 : Row := ([], [])
/-- Keys in strictly ascending order. -/
def srt : List Row → Bool
  | [] => true
  | a :: l => l.all (fun b => lt a.1 b.1) && srt l
def has (l : List Row) (k : List UInt8) : Bool := l.any fun r => decide (r.1 = k)
/-- How many rows are ahead of a key. -/
def pos (l : List Row) (k : List UInt8) : Nat := (l.takeWhile fun r => lt r.1 k).length
/-- What is there for a key: the first one. -/
def val : List Row → List UInt8 → List UInt8
  | [], _ => []
  | r :: l, k => if r.1 = k then r.2 else val l k
/-- The state in which a key has a value (not done yet), or none (done). -/
def wth (k v : List UInt8) : Bool → List Row → List Row
  | d, [] => if d then [] else [(k, v)]
  | d, r :: l => if r.1 = k then wth k v d l else if d = false ∧ lt k r.1 = true then (k, v) :: r :: wth k v true l else r :: wth k v d l
end F
theorem lt_iff {a b : List UInt8} : F.lt a b = true ↔ a < b := by
  unfold F.lt
  rw [Go.Proofs.bytesLess_eq, decide_eq_true_eq]
theorem lt_irr (a : List UInt8) : F.lt a a = false := by
  rw [Bool.eq_false_iff]
  intro h
  exact List.lt_irrefl a (lt_iff.1 h)
theorem lt_trans' {a b c : List UInt8} (h : F.lt a b = true) (k : F.lt b c = true) : F.lt a c = true := lt_iff.2 (List.lt_trans (lt_iff.1 h) (lt_iff.1 k))
theorem lt_asymm' {a b : List UInt8} (h : F.lt a b = true) : F.lt b a = false := by
  rw [Bool.eq_false_iff]
  intro k
  have := lt_trans' h k
  rw [lt_irr] at this
  cases this
theorem lt_tri (a b : List UInt8) : F.lt a b = true ∨ a = b ∨ F.lt b a = true := by
  by_cases h : a < b
  · exact .inl (lt_iff.2 h)
  · by_cases k : b < a
    · exact .inr (.inr (lt_iff.2 k))
    · exact .inr (.inl (List.le_antisymm (List.not_lt.1 k) (List.not_lt.1 h)))
theorem lt_not {a b : List UInt8} : (F.lt a b || decide (a = b)) = !F.lt b a := by
  rcases lt_tri a b with h | h | h
  · rw [h, lt_asymm' h]; rfl
  · subst h; rw [lt_irr]; simp
  · have hne : ¬ a = b := fun e => by subst e; rw [lt_irr] at h; cases h
    rw [lt_asymm' h, h, decide_eq_false hne]; rfl
theorem srt_cons {a : F.Row} {l : List F.Row} : F.srt (a :: l) = true ↔ (∀ b ∈ l, F.lt a.1 b.1 = true) ∧ F.srt l = true := by
  simp [F.srt]
theorem has_cons {a : F.Row} {l : List F.Row} {k : List UInt8} : F.has (a :: l) k = (decide (a.1 = k) || F.has l k) := rfl
theorem has_not {l : List F.Row} {k : List UInt8} (h : ∀ b ∈ l, F.lt k b.1 = true) : F.has l k = false := by
  unfold F.has
  rw [List.any_eq_false]
  intro b hb e
  have e' : b.1 = k := of_decide_eq_true e
  have := h b hb
  rw [e', lt_irr] at this
  cases this
theorem pos_zero {l : List F.Row} {k : List UInt8} (h : ∀ b ∈ l, F.lt b.1 k = false) : F.pos l k = 0 := by
  unfold F.pos
  cases l with
  | nil => rfl
  | cons a l => rw [List.takeWhile_cons_of_neg (by rw [h a (List.mem_cons_self ..)]; decide)]; rfl
theorem pos_succ {a : F.Row} {l : List F.Row} {k : List UInt8} (h : F.lt a.1 k = true) : F.pos (a :: l) k = F.pos l k + 1 := by
  unfold F.pos
  have e : List.takeWhile (fun r : F.Row => F.lt r.1 k) (a :: l) = a :: List.takeWhile (fun r : F.Row => F.lt r.1 k) l := List.takeWhile_cons_of_pos h
  rw [e]; rfl
theorem pos_le (l : List F.Row) (k : List UInt8) : F.pos l k ≤ l.length := by
  unfold F.pos
  exact (List.takeWhile_sublist _).length_le
/-- The place where the search ends. -/
theorem pos_eq {l : List F.Row} {k : List UInt8} {i : Nat} (hi : i ≤ l.length) (h1 : ∀ m, m < i → F.lt (l.getD m F.r0).1 k = true) (h2 : ∀ m, i ≤ m → m < l.length → F.lt (l.getD m F.r0).1 k = false) : F.pos l k = i := by
  induction l generalizing i with
  | nil => simp at hi; subst hi; rfl
  | cons a l ih =>
    cases i with
    | zero =>
      have := h2 0 (Nat.le_refl _) (by simp)
      unfold F.pos
      rw [List.takeWhile_cons_of_neg (by simp only [List.getD_cons_zero] at this; rw [this]; decide)]; rfl
    | succ i =>
      have := h1 0 (by omega)
      simp only [List.getD_cons_zero] at this
      rw [pos_succ this, ih (i := i) (by simpa using hi) (fun m hm => by simpa using h1 (m + 1) (by omega)) (fun m hm hl => by simpa using h2 (m + 1) (by omega) (by simpa using hl))]
theorem srt_lt {l : List F.Row} (h : F.srt l = true) {m n : Nat} (hm : m < n) (hn : n < l.length) : F.lt (l.getD m F.r0).1 (l.getD n F.r0).1 = true := by
  induction l generalizing m n with
  | nil => simp at hn
  | cons a l ih =>
    obtain ⟨h1, h2⟩ := srt_cons.1 h
    cases n with
    | zero => omega
    | succ n =>
      have hn' : n < l.length := by simpa using hn
      cases m with
      | zero =>
        simp only [List.getD_cons_zero, List.getD_cons_succ]
        refine h1 _ ?_
        rw [List.getD, List.getElem?_eq_getElem hn']
        exact List.getElem_mem _
      | succ m =>
        simp only [List.getD_cons_succ]
        exact ih h2 (by omega) hn'
/-- The key is there exactly if it stands at its place. -/
theorem has_pos {l : List F.Row} {k : List UInt8} (h : F.srt l = true) : F.has l k = (decide (F.pos l k < l.length) && decide ((l.getD (F.pos l k) F.r0).1 = k)) := by
  induction l with
  | nil => rfl
  | cons a l ih =>
    obtain ⟨h1, h2⟩ := srt_cons.1 h
    rw [has_cons]
    rcases lt_tri a.1 k with c | c | c
    · have hne : ¬ a.1 = k := fun e => by rw [e, lt_irr] at c; cases c
      rw [pos_succ c, decide_eq_false hne, Bool.false_or, ih h2]
      simp
    · have hp : F.pos (a :: l) k = 0 := by
        unfold F.pos
        rw [List.takeWhile_cons_of_neg (by rw [c, lt_irr]; decide)]; rfl
      rw [hp]
      simp [c]
    · have hp : F.pos (a :: l) k = 0 := by
        unfold F.pos
        rw [List.takeWhile_cons_of_neg (by rw [lt_asymm' c]; decide)]; rfl
      have hne : ¬ a.1 = k := fun e => by rw [e, lt_irr] at c; cases c
      rw [hp, decide_eq_false hne, has_not (fun b hb => lt_trans' c (h1 b hb))]
      simp [hne]
theorem val_pos {l : List F.Row} {k : List UInt8} (h : F.srt l = true) (hh : F.has l k = true) : F.val l k = (l.getD (F.pos l k) F.r0).2 := by
  induction l with
  | nil => cases hh
  | cons a l ih =>
    obtain ⟨h1, h2⟩ := srt_cons.1 h
    rw [has_cons] at hh
    unfold F.val
    by_cases c : a.1 = k
    · have hp : F.pos (a :: l) k = 0 := by
        unfold F.pos
        rw [List.takeWhile_cons_of_neg (by rw [c, lt_irr]; decide)]; rfl
      rw [if_pos c, hp]; rfl
    · rw [decide_eq_false c, Bool.false_or] at hh
      rw [if_neg c, ih h2 hh]
      obtain ⟨b, hb, e⟩ := List.any_eq_true.1 hh
      have e' : b.1 = k := of_decide_eq_true e
      have := h1 b hb
      rw [e'] at this
      rw [pos_succ this]; rfl
theorem val_none {l : List F.Row} {k : List UInt8} (hh : F.has l k = false) : F.val l k = [] := by
  induction l with
  | nil => rfl
  | cons a l ih =>
    rw [has_cons, Bool.or_eq_false_iff] at hh
    unfold F.val
    rw [if_neg (of_decide_eq_false hh.1), ih hh.2]
theorem wth_none {l : List F.Row} {k v : List UInt8} (hh : F.has l k = false) : F.wth k v true l = l := by
  induction l with
  | nil => rfl
  | cons a l ih =>
    rw [has_cons, Bool.or_eq_false_iff] at hh
    unfold F.wth
    rw [if_neg (of_decide_eq_false hh.1), if_neg (fun h => by cases h.1), ih hh.2]
/-- A key that is there: its value is changed in its place. -/
theorem wth_set {l : List F.Row} {k v : List UInt8} (h : F.srt l = true) (hh : F.has l k = true) : F.wth k v false l = l.set (F.pos l k) (k, v) := by
  induction l with
  | nil => cases hh
  | cons a l ih =>
    obtain ⟨h1, h2⟩ := srt_cons.1 h
    rw [has_cons] at hh
    unfold F.wth
    by_cases c : a.1 = k
    · have hp : F.pos (a :: l) k = 0 := by
        unfold F.pos
        rw [List.takeWhile_cons_of_neg (by rw [c, lt_irr]; decide)]; rfl
      rw [if_pos c, hp, List.set_cons_zero]
      have key : ∀ l' : List F.Row, (∀ b ∈ l', F.lt k b.1 = true) → F.wth k v false l' = (k, v) :: l' := by
        intro l' hl'
        cases l' with
        | nil => rfl
        | cons b l' =>
          have hb := hl' b (List.mem_cons_self ..)
          have hne : ¬ b.1 = k := fun e => by rw [e, lt_irr] at hb; cases hb
          unfold F.wth
          rw [if_neg hne, if_pos ⟨rfl, hb⟩, wth_none (has_not fun b hb => hl' b (List.mem_cons_of_mem _ hb))]
      exact key l fun b hb => by rw [← c]; exact h1 b hb
    · rw [decide_eq_false c, Bool.false_or] at hh
      obtain ⟨b, hb, e⟩ := List.any_eq_true.1 hh
      have e' : b.1 = k := of_decide_eq_true e
      have hlt := h1 b hb
      rw [e'] at hlt
      rw [if_neg c, if_neg (fun h => by rw [lt_asymm' hlt] at h; cases h.2), pos_succ hlt, List.set_cons_succ, ih h2 hh]
/-- A key that is not there: a row is put in at its place. -/
theorem wth_ins {l : List F.Row} {k v : List UInt8} (h : F.srt l = true) (hh : F.has l k = false) : F.wth k v false l = l.take (F.pos l k) ++ [(k, v)] ++ l.drop (F.pos l k) := by
  induction l with
  | nil => rfl
  | cons a l ih =>
    obtain ⟨h1, h2⟩ := srt_cons.1 h
    rw [has_cons, Bool.or_eq_false_iff] at hh
    have c := of_decide_eq_false hh.1
    unfold F.wth
    rw [if_neg c]
    rcases lt_tri a.1 k with q | q | q
    · rw [if_neg (fun h => by rw [lt_asymm' q] at h; cases h.2), pos_succ q, ih h2 hh.2]
      simp
    · exact absurd q c
    · have hp : F.pos (a :: l) k = 0 := by
        unfold F.pos
        rw [List.takeWhile_cons_of_neg (by rw [lt_asymm' q]; decide)]; rfl
      rw [if_pos ⟨rfl, q⟩, wth_none hh.2, hp]
      rfl
/-- A key that is there: its row is taken out. -/
theorem wth_del {l : List F.Row} {k v : List UInt8} (h : F.srt l = true) (hh : F.has l k = true) : F.wth k v true l = l.eraseIdx (F.pos l k) := by
  induction l with
  | nil => cases hh
  | cons a l ih =>
    obtain ⟨h1, h2⟩ := srt_cons.1 h
    rw [has_cons] at hh
    unfold F.wth
    by_cases c : a.1 = k
    · have hp : F.pos (a :: l) k = 0 := by
        unfold F.pos
        rw [List.takeWhile_cons_of_neg (by rw [c, lt_irr]; decide)]; rfl
      rw [if_pos c, hp, wth_none (has_not fun b hb => by rw [← c]; exact h1 b hb)]; rfl
    · rw [decide_eq_false c, Bool.false_or] at hh
      obtain ⟨b, hb, e⟩ := List.any_eq_true.1 hh
      have e' : b.1 = k := of_decide_eq_true e
      have hlt := h1 b hb
      rw [e'] at hlt
      rw [if_neg c, if_neg (fun h => by cases h.1), pos_succ hlt, ih h2 hh]; rfl
theorem wth_len {l : List F.Row} {k v : List UInt8} (h : F.srt l = true) : (F.wth k v false l).length = if F.has l k = true then l.length else l.length + 1 := by
  split
  · rename_i hh
    rw [wth_set h hh, List.length_set]
  · rename_i hh
    rw [wth_ins h (by simpa using hh)]
    have := pos_le l k
    simp only [List.length_append, List.length_take, List.length_drop, List.length_cons, List.length_nil]
    omega
end Go.Proofs.YtoflfgcdagoobaaDoor
end
section
/- Strings compared: the library's entry, and what strings.Compare comes to. -/
namespace Go.Proofs.YtoflfgcdagoobaaDoor
open Go.ChangeShapes Go.WideShapes Go.ChangeAt Go.RowKit Sym
set_option maxRecDepth 100000
noncomputable section
def F.cmp (a b : List UInt8) : Int := if F.lt a b = true then -1 else if a = b then 0 else 1
theorem cmp_bytes : ∀ a b : List UInt8, Lib.compareBytes a b = F.cmp a b
  | [], [] => rfl
  | [], _ :: _ => rfl
  | _ :: _, [] => rfl
  | a :: xs, b :: bs => by
    rw [Lib.compareBytes]
    have e : F.lt (a :: xs) (b :: bs) = (decide (a < b) || ((a == b) && F.lt xs bs)) := rfl
    unfold F.cmp
    rw [e]
    by_cases h : a < b
    · simp [h]
    · by_cases k : b < a
      · have hne : ¬ a = b := fun e => by subst e; exact h k
        simp [h, k, hne]
      · have : a = b := UInt8.le_antisymm (UInt8.not_lt.1 k) (UInt8.not_lt.1 h)
        subst this
        rw [cmp_bytes xs bs, if_neg h, if_neg h]
        simp [h, F.cmp]
theorem cmp_lt {a b : List UInt8} : F.cmp a b < 0 ↔ F.lt a b = true := by
  unfold F.cmp
  split
  · simp_all
  · split <;> simp_all
theorem cmp_eq0 {a b : List UInt8} : F.cmp a b = 0 ↔ a = b := by
  unfold F.cmp
  split
  · rename_i h
    constructor
    · intro h; cases h
    · intro e; subst e; rw [lt_irr] at h; cases h
  · split <;> simp_all
set_option maxHeartbeats 1000000 in
theorem compareString (a b : ByteArray) (w : World) :
    Calls Tryd.prog 64 #[.string a, .string b] w fun e w' => e = .returned (.int .i64 (Lib.compareBytes a.data.toList b.data.toList)) ∧ w' = w := by
  go_enter Tryd.func64, Tryd.ntmps64
  go_wp2
  rw [run_callFunc_extern Tryd.func78 (by kernel_rfl) (by kernel_rfl) (by kernel_rfl) (e := Extern.BytealgCompare.compare) (by kernel_rfl), Lib.run_compareString]
  simp only [Result.andThen]
  rw [Oper.upon_value]
  go_wp2
  go_ret
  exact ⟨rfl, rfl⟩
def s_cstr : Summ cod := fun args _ => match args with
  | [.c (.str a), .c (.str b)] => .ret (.c (.int .i64 (F.cmp a b)), [])
  | _ => .fail
theorem cstr_sound : Sound Tryd.prog cod 64 s_cstr := by
  refine Sound.scal (fun args w => enters_fn Tryd.func64 rfl rfl args w) fun args H r news w ht hg => ?_
  unfold s_cstr at hg
  split at hg
  · rename_i a b
    cases hg
    refine ⟨rfl, rfl, .int .i64 (F.cmp a b), fun _ _ => rfl, ?_⟩
    refine (compareString ⟨a.toArray⟩ ⟨b.toArray⟩ w).mono ?_
    rintro e w' ⟨rfl, rfl⟩
    exact ⟨by rw [cmp_bytes], ⟨Below.refl _ _, Nat.le_refl _⟩⟩
  · exact hg.elim
end
end Go.Proofs.YtoflfgcdagoobaaDoor
end
