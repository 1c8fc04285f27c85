/- A symbolic run of a function's code: states of symbolic values, and a small tree of tests and conditions as its result. Definitions. -/
import Derived.WalkKit
import Derived.ProofKit
namespace Go.Proofs.YtiolfkmkbccndaaGreatDoor.Sym
open Go.RowKit

/-! ### the tree that a run yields -/
inductive T (α : Type) : Type where
  | ret (a : α)
  | ite (c : Bool) (t e : T α)
  | need (p : Prop) (t : T α)
  | fail

section
variable {α β : Type}
def T.bind : T α → (α → T β) → T β
  | .ret a, k => k a
  | .ite c t e, k => .ite c (t.bind k) (e.bind k)
  | .need p t, k => .need p (t.bind k)
  | .fail, _ => .fail
def T.wp : T α → (α → Prop) → Prop
  | .ret a, Q => Q a
  | .ite c t e, Q => (c = true → t.wp Q) ∧ (c = false → e.wp Q)
  | .need p t, Q => p ∧ t.wp Q
  | .fail, _ => False
def T.gives (t : T α) (a : α) : Prop := t.wp (· = a)

theorem T.wp_mono {t : T α} {Q R : α → Prop} (h : ∀ a, Q a → R a) (ht : t.wp Q) : t.wp R := by
  induction t with
  | ret a => exact h a ht
  | ite c t e iht ihe => exact ⟨fun hc => iht (ht.1 hc), fun hc => ihe (ht.2 hc)⟩
  | need p t ih => exact ⟨ht.1, ih ht.2⟩
  | fail => exact ht
theorem T.wp_bind {t : T α} {k : α → T β} {Q : β → Prop} : (t.bind k).wp Q ↔ t.wp fun a => (k a).wp Q := by
  induction t with
  | ret a => exact Iff.rfl
  | ite c t e iht ihe => simp only [T.bind, T.wp, iht, ihe]
  | need p t ih => simp only [T.bind, T.wp, ih]
  | fail => exact Iff.rfl
theorem T.wp_gives {t : T α} {Q : α → Prop} (h : t.wp Q) : ∃ a, t.gives a ∧ Q a := by
  induction t with
  | ret a => exact ⟨a, rfl, h⟩
  | ite c t e iht ihe =>
    cases c with
    | true =>
      obtain ⟨a, h1, h2⟩ := iht (h.1 rfl)
      exact ⟨a, ⟨fun _ => h1, (fun hc => by cases hc)⟩, h2⟩
    | false =>
      obtain ⟨a, h1, h2⟩ := ihe (h.2 rfl)
      exact ⟨a, ⟨(fun hc => by cases hc), fun _ => h1⟩, h2⟩
  | need p t ih =>
    obtain ⟨a, h1, h2⟩ := ih h.2
    exact ⟨a, ⟨h.1, h1⟩, h2⟩
  | fail => exact h.elim
theorem T.gives_wp {t : T α} {Q : α → Prop} {a : α} (h : t.gives a) (hq : Q a) : t.wp Q := T.wp_mono (fun b hb => by subst hb; exact hq) h
theorem T.gives_uniq {t : T α} {a b : α} (h : t.gives a) (h' : t.gives b) : a = b := by
  induction t with
  | ret c => exact h.symm.trans h'
  | ite c t e iht ihe =>
    cases c with
    | true => exact iht (h.1 rfl) (h'.1 rfl)
    | false => exact ihe (h.2 rfl) (h'.2 rfl)
  | need p t ih => exact ih h.2 h'.2
  | fail => exact h.elim
theorem T.gives_bind {t : T α} {k : α → T β} {b : β} : (t.bind k).gives b ↔ ∃ a, t.gives a ∧ (k a).gives b := by
  unfold T.gives
  rw [T.wp_bind]
  constructor
  · intro h
    obtain ⟨a, h1, h2⟩ := T.wp_gives h
    exact ⟨a, h1, h2⟩
  · rintro ⟨a, h1, h2⟩
    exact T.gives_wp h1 h2
theorem T.gives_ret {a b : α} : (T.ret a).gives b ↔ a = b := Iff.rfl
theorem T.gives_need {p : Prop} {t : T α} {b : α} : (T.need p t).gives b ↔ p ∧ t.gives b := Iff.rfl
theorem T.gives_fail {b : α} : (T.fail : T α).gives b ↔ False := Iff.rfl
theorem T.gives_ite {c : Bool} {t e : T α} {b : α} : (T.ite c t e).gives b ↔ (if c then t else e).gives b := by
  cases c
  · exact ⟨fun h => h.2 rfl, fun h => ⟨(fun hc => by cases hc), fun _ => h⟩⟩
  · exact ⟨fun h => h.1 rfl, fun h => ⟨fun _ => h, (fun hc => by cases hc)⟩⟩
end

/-! ### symbolic values -/
/-- What one cell holds. 'ptr h i o': into object h, element i, o cells on; 'slc h i n t': n elements of object h from element i on, t: the capacity is n too; 'own h n': the whole of the slice h that the call owns. -/
inductive Cell : Type where
  | int (k : IntKind) (n : Int)
  | bool (b : Bool)
  | str (s : List UInt8)
  | ptr (h i o : Nat)
  | slc (h i n : Nat) (t : Bool)
  | own (h n : Nat)
  | nil
  | fn (f : FuncId) (caps : List (Nat × Nat × Nat))
  | raw (v : Value)
  | junk
  deriving Inhabited

inductive SV : Type where
  | c (x : Cell)
  | agg (cs : List Cell)
  | tup (vs : List SV)
  deriving Inhabited

def Cell.scalar : Cell → Bool
  | .int _ _ | .bool _ | .str _ => true
  | _ => false
/-- A scalar's value. -/
def Cell.val : Cell → Value
  | .int k n => .int k n
  | .bool b => .bool b
  | .str s => .string ⟨s.toArray⟩
  | _ => .tuple #[]
/-- May be stored in a cell. -/
def Cell.one : Cell → Bool
  | .raw v => v.oneCell'
  | .junk => false
  | _ => true

/-- How the elements of a row read: a type of their own, laid out in cells. -/
structure Codec : Type 1 where
  α : Type
  enc : α → List Cell
  dec : List Cell → α
  ok : List Cell → Bool
  size : Nat
  d : α
  size_eq : ∀ a, (enc a).length = size
  scal : ∀ a, (enc a).all Cell.scalar = true
  ok_spec : ∀ e, ok e = true → enc (dec e) = e
  pos : 0 < size

def Cell.ofValue : Value → Cell
  | .int k n => .int k n
  | .bool b => .bool b
  | .string s => .str s.data.toList
  | .slice none 0 0 => .nil
  | .func (.func f) ⟨[]⟩ ⟨[]⟩ => .fn f []
  | v => .raw v
def SV.ofValue : Value → SV
  | .agg cs => .agg (cs.toList.map Cell.ofValue)
  | v => .c (Cell.ofValue v)
def SV.cells : SV → List Cell
  | .c x => [x]
  | .agg cs => cs
  | .tup _ => [.junk, .junk]

/-! ### objects -/
section
variable (cod : Nat → Codec)

/-- An object in memory: 'blk' a block known whole, cell by cell; 'rblk' the same, not written; 'pblk' the same at the front of a block of its own; 'arr' a block known whole, a row of elements; 'own' a slice's row that the call owns (its capacity is not known); 'inp' a row that is only read; 'nin' a row of rows that is only read, and what the cell of one element is known to be; 'sarr' a block known whole: scalars, a row of n elements, scalars; 'nown' a slice of slices that the call owns, some of its rows (js) objects of their own, the cells of these (cs). -/
inductive HObj : Type where
  | blk (cs : List Cell) (ty : TypeId)
  | rblk (cs : List Cell)
  | pblk (cs : List Cell)
  | arr (t : Nat) (l : List (cod t).α) (ty : TypeId)
  | own (t : Nat) (l : List (cod t).α) (ty : TypeId)
  | inp (t : Nat) (l : List (cod t).α)
  | nin (t : Nat) (LL : List (List (cod t).α)) (op : Option (Nat × Cell))
  | sarr (pre : List Cell) (t : Nat) (n : Nat) (l : List (cod t).α) (post : List Cell) (ty : TypeId)
  | nown (t : Nat) (LL : List (List (cod t).α)) (js : List Nat) (cs : List Cell) (ty tyr : TypeId)
  | dead

/-- The elements of a row of kind t. -/
def HObj.rows (t : Nat) : HObj cod → Option (List (cod t).α)
  | .arr u l _ => if h : u = t then some (h ▸ l) else none
  | .own u l _ => if h : u = t then some (h ▸ l) else none
  | .inp u l => if h : u = t then some (h ▸ l) else none
  | _ => none

abbrev Heap := List (HObj cod)
structure St where
  tmps : List SV
  heap : Heap cod

abbrev Summ := List SV → Heap cod → T (SV × Heap cod)

/-- What the run is told: the program, the kinds of rows by element type, the functions' summaries, whether int64 sums wrap (or are asked to fit). -/
structure Cfg where
  P : Program
  ctag : TypeId → Option Nat
  summ : FuncId → Option (Summ cod)
  quiet : FuncId → Bool
  wrap : Bool
  /-- the summaries of functions that write to the caller's objects: they hand back all objects; true: own rows stay where they are -/
  summI : FuncId → Option (Bool × Summ cod) := fun _ => none
  /-- the places kept for the variables that a region makes, by the temporaries that take their addresses -/
  place : Nat → Option Nat := fun _ => none
  /-- appends to tight slices add nothing -/
  emp : Bool := false
  /-- appends to tight slices may add nothing -/
  empB : Bool := false

variable {cod}
def getObj (H : Heap cod) (h : Nat) : HObj cod := H.getD h .dead

def isAggB (P : Program) (t : TypeId) : Bool :=
  match P.underlying t with
  | some (.struct _) | some (.array _ _) => true
  | _ => false

/-- The cell of element i, one of those that are known. -/
def pickO (m i : Nat) : List Nat → List Cell → T (List Cell)
  | [j], [c] => .need (i = j ∧ j < m) (.ret [c])
  | j :: js, c :: cs => .ite (decide (i = j)) (.need (j < m) (.ret [c])) (pickO m i js cs)
  | _, _ => .fail
/-- n cells of object h from element i, cell o on. -/
def loadS (H : Heap cod) (h i o n : Nat) : T (List Cell) :=
  match getObj H h with
  | .blk cs _ | .rblk cs | .pblk cs => if i = 0 ∧ o + n ≤ cs.length then .ret ((cs.drop o).take n) else .fail
  | .arr t l _ | .own t l _ | .inp t l => if o + n ≤ (cod t).size then .need (i < l.length) (.ret ((((cod t).enc (l.getD i (cod t).d)).drop o).take n)) else if i = 0 ∧ o = 0 then .need (l.length * (cod t).size = n) (.ret (l.flatMap (cod t).enc)) else .fail
  | .nin _ LL op => match op with
    | some (j, c) => if o = 0 ∧ n = 1 then .need (i = j ∧ j < LL.length) (.ret [c]) else .fail
    | none => .fail
  | .sarr pre t m l post _ =>
    if pre.length ≤ o ∧ o + n ≤ pre.length + (cod t).size then .need (i < m) (.ret ((((cod t).enc (l.getD i (cod t).d)).drop (o - pre.length)).take n))
    else if i = 0 ∧ o + n ≤ pre.length ∧ ((pre.drop o).take n).all Cell.scalar = true then .ret ((pre.drop o).take n)
    else if i = 0 ∧ o = pre.length ∧ n = m * (cod t).size then .ret (l.flatMap (cod t).enc)
    else if i = 0 ∧ pre.length + m * (cod t).size ≤ o ∧ o + n ≤ pre.length + m * (cod t).size + post.length ∧ ((post.drop (o - (pre.length + m * (cod t).size))).take n).all Cell.scalar = true then .ret ((post.drop (o - (pre.length + m * (cod t).size))).take n)
    else .fail
  | .nown _ LL js cs _ _ => if o = 0 ∧ n = 1 then pickO LL.length i js cs else .fail
  | .dead => .fail
def splice (cs : List Cell) (o : Nat) (xs : List Cell) : List Cell := cs.take o ++ (xs ++ cs.drop (o + xs.length))
def storeS (H : Heap cod) (h i o : Nat) (xs : List Cell) : T (Heap cod) :=
  match getObj H h with
  | .blk cs ty => if i = 0 ∧ o + xs.length ≤ cs.length ∧ xs.all Cell.one then .ret (H.set h (.blk (splice cs o xs) ty)) else .fail
  | .arr t l ty =>
    if o + xs.length ≤ (cod t).size ∧ (cod t).ok (splice ((cod t).enc (l.getD i (cod t).d)) o xs) = true then
      .need (i < l.length) (.ret (H.set h (.arr t (l.set i ((cod t).dec (splice ((cod t).enc (l.getD i (cod t).d)) o xs))) ty))) else .fail
  | .own t l ty =>
    if o + xs.length ≤ (cod t).size ∧ (cod t).ok (splice ((cod t).enc (l.getD i (cod t).d)) o xs) = true then
      .need (i < l.length) (.ret (H.set h (.own t (l.set i ((cod t).dec (splice ((cod t).enc (l.getD i (cod t).d)) o xs))) ty))) else .fail
  | .sarr pre t m l post ty =>
    if pre.length ≤ o ∧ o + xs.length ≤ pre.length + (cod t).size ∧ (cod t).ok (splice ((cod t).enc (l.getD i (cod t).d)) (o - pre.length) xs) = true then
      .need (i < m) (.ret (H.set h (.sarr pre t m (l.set i ((cod t).dec (splice ((cod t).enc (l.getD i (cod t).d)) (o - pre.length) xs))) post ty)))
    else if i = 0 ∧ o + xs.length ≤ pre.length ∧ xs.all Cell.scalar = true then .ret (H.set h (.sarr (splice pre o xs) t m l post ty))
    else if i = 0 ∧ pre.length + m * (cod t).size ≤ o ∧ o + xs.length ≤ pre.length + m * (cod t).size + post.length ∧ xs.all Cell.scalar = true then .ret (H.set h (.sarr pre t m l (splice post (o - (pre.length + m * (cod t).size)) xs) ty))
    else .fail
  | _ => .fail

/-- Cells cut into elements of k cells. -/
def chunks (k : Nat) : Nat → List Cell → List (List Cell)
  | 0, _ => []
  | n + 1, cs => cs.take k :: chunks k n (cs.drop k)
/-- The elements that cells read as; none where one does not. -/
def decAll (c : Codec) (n : Nat) (cs : List Cell) : Option (List c.α) :=
  let l := chunks c.size n cs
  if l.all c.ok ∧ cs.length = n * c.size then some (l.map c.dec) else none

/-- A new object of these cells: a row where the type has a kind. -/
def mkObj (cfg : Cfg cod) (ty : TypeId) (n : Nat) (cs : List Cell) : HObj cod :=
  match cfg.ctag ty with
  | none => .blk cs ty
  | some t => match decAll (cod t) n cs with
    | some l => .arr t l ty
    | none => .blk cs ty

def i64ok (n : Int) : Prop := -9223372036854775808 ≤ n ∧ n ≤ 9223372036854775807
/-- The result of an int operation. -/
def arith (wrap : Bool) (k : IntKind) (n : Int) : T SV :=
  match wrap, k with
  | false, .i64 => .need (i64ok n) (.ret (.c (.int .i64 n)))
  | _, _ => .ret (.c (.int k (k.wrap n)))
def bitsS (op : BinOp) (k : IntKind) (x y : Int) : T SV :=
  match op with
  | .and | .or | .xor | .andNot => .ret (.c (.int k (bits op k x y)))
  | _ => .fail
def boolS (b : Bool) : T SV := .ret (.c (.bool b))

/-- '==' at a type: cell by cell, as the type says. -/
def eqFs (rec : TypeId → List Cell → List Cell → Option Bool) (P : Program) (cs ds : List Cell) : List Field → Option Bool
  | [] => some true
  | f :: fs =>
    if f.name = "_" ∨ (P.cellsOf f.type ≠ 1 ∧ isAggB P f.type = false) then none else
    match rec f.type ((cs.drop f.offset).take (P.cellsOf f.type)) ((ds.drop f.offset).take (P.cellsOf f.type)) with
    | none => none
    | some b => match fs with
      | [] => some b
      | _ => match eqFs rec P cs ds fs with
        | some c => some (b && c)
        | none => none
def eqT (P : Program) : Nat → TypeId → List Cell → List Cell → Option Bool
  | 0, _, _, _ => none
  | d + 1, t, cs, ds =>
    match P.underlying t with
    | some .bool => match cs, ds with
      | [.bool a], [.bool b] => some (a == b)
      | _, _ => none
    | some (.int _) => match cs, ds with
      | [.int k a], [.int k' b] => if k = k' then some (decide (a = b)) else none
      | _, _ => none
    | some .string => match cs, ds with
      | [.str a], [.str b] => some (decide (a = b))
      | _, _ => none
    | some (.struct fs) => if P.stoodInHeld t = true then none else eqFs (eqT P d) P cs ds fs.toList
    | _ => none
end
end Go.Proofs.YtiolfkmkbccndaaGreatDoor.Sym
