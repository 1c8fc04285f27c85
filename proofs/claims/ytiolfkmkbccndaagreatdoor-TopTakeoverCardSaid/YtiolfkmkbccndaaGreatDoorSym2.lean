/- A symbolic run of a function's code: one operation. Definitions. -/
import Derived.Test.YtiolfkmkbccndaaGreatDoorSym1
import Derived.Laws.FloatArith
namespace Go.Proofs.YtiolfkmkbccndaaGreatDoor.Sym
open Go.RowKit

section
variable {cod : Nat → Codec}

def evS (tm : List SV) : Operand → SV
  | .tmp t => tm.getD t (.c .junk)
  | .const v => SV.ofValue v
  | .func f => .c (.fn f [])
  | .global _ => .c .junk
def asBoolS : SV → Option Bool
  | .c (.bool b) => some b
  | .c (.raw (.bool b)) => some b
  | _ => none

/-- What an operation leaves: its value, the objects, and the objects to which older references have lost their meaning. -/
structure Out (cod : Nat → Codec) where
  v : SV
  H : Heap cod
  kill : List Nat := []
def Cell.hs : Cell → List Nat
  | .ptr h _ _ => [h]
  | .slc h _ _ _ => [h]
  | .own h _ => [h]
  | .fn _ caps => caps.map (·.1)
  | _ => []
def Cell.killed (ks : List Nat) (c : Cell) : Cell := if c.hs.any ks.contains then .junk else c
def HObj.mapC (f : Cell → Cell) : HObj cod → HObj cod
  | .blk cs ty => .blk (cs.map f) ty
  | .rblk cs => .rblk (cs.map f)
  | .pblk cs => .pblk (cs.map f)
  | .nin t LL op => .nin t LL (op.map fun p => (p.1, f p.2))
  | .nown t LL js cs ty tyr => .nown t LL js (cs.map f) ty tyr
  | o => o
def SV.mapC (f : Cell → Cell) : SV → SV
  | .c x => .c (f x)
  | .agg cs => .agg (cs.map f)
  | .tup vs => .tup (vs.map fun | .c x => .c (f x) | .agg cs => .agg (cs.map f) | v => v)
def undefS : SV := .c (.raw undef)

def binS (wrap : Bool) (op : BinOp) (x y : SV) : T SV :=
  match x, y with
  | .c (.int k a), .c (.int k' b) =>
    match op with
    | .shl => .need (0 ≤ b) (.ret (.c (.int k (k.wrap (a * 2 ^ (min b.toNat k.bits))))))
    | .shr => .need (0 ≤ b) (.ret (.c (.int k (a.fdiv (2 ^ (min b.toNat k.bits))))))
    | _ =>
      if k = k' then
        match op with
        | .add => arith wrap k (a + b)
        | .sub => arith wrap k (a - b)
        | .mul => arith wrap k (a * b)
        | .quo => .need (b ≠ 0) (arith wrap k (a.tdiv b))
        | .rem => .need (b ≠ 0) (.ret (.c (.int k (a.tmod b))))
        | .and => .ret (.c (.int k (bits .and k a b)))
        | .or => .ret (.c (.int k (bits .or k a b)))
        | .xor => .ret (.c (.int k (bits .xor k a b)))
        | .andNot => .ret (.c (.int k (bits .andNot k a b)))
        | .eql => boolS (decide (a = b))
        | .neq => boolS (!decide (a = b))
        | .lss => boolS (decide (a < b))
        | .leq => boolS (decide (a ≤ b))
        | .gtr => boolS (decide (b < a))
        | .geq => boolS (decide (b ≤ a))
        | _ => .fail
      else .fail
  | .c (.str a), .c (.str b) =>
    match op with
    | .add => .need (a.length + b.length ≤ 9223372036854775807) (.ret (.c (.str (a ++ b))))
    | .eql => boolS (decide (a = b))
    | .neq => boolS (!decide (a = b))
    | .lss => boolS (Op.bytesLess a b)
    | .leq => boolS (Op.bytesLess a b || decide (a = b))
    | .gtr => boolS (!(Op.bytesLess a b || decide (a = b)))
    | .geq => boolS (!Op.bytesLess a b)
    | _ => .fail
  | _, _ => .fail
/-- '==' and '!=' at types other than ints and strings. -/
def eqS (P : Program) (t : TypeId) (x y : SV) : Option Bool :=
  match x, y with
  | .agg xs, .agg ys => if P.eqGuardType P.depth t = true ∨ isAggB P t = false then none else eqT P 8 t xs ys
  | x, y => match asBoolS x, asBoolS y with
    | some a, some b => match P.underlying t with
      | some .bool => some (a == b)
      | _ => none
    | _, _ => none
/-- A slice or a pointer against nil: what has to hold, and the answer. -/
def nilS (P : Program) (t : TypeId) (x y : SV) : Option (Prop × Bool) :=
  match P.underlying t with
  | some (.slice _) => match x, y with
    | .c (.slc _ _ n _), .c .nil => some (0 < n, false)
    | .c (.own _ n), .c .nil => some (0 < n, false)
    | .c .nil, .c .nil => some (True, true)
    | _, _ => none
  | some (.pointer _) => match x, y with
    | .c (.ptr _ _ _), .c (.raw (.pointer none)) => some (True, false)
    | .c (.raw (.pointer none)), .c (.raw (.pointer none)) => some (True, true)
    | _, _ => none
  | _ => none
/-- Floats, by names that stay folded. -/
def F.feq (k : FloatKind) (a b : Nat) : Bool := k.format.order a b == some .eq
def F.flt (k : FloatKind) (a b : Nat) : Bool := k.format.order a b == some .lt
def F.fgt (k : FloatKind) (a b : Nat) : Bool := k.format.order a b == some .gt
def F.fmul (k : FloatKind) (a b : Nat) : Nat := (k.format.mul a b).getD 0
def F.fmulOk (k : FloatKind) (a b : Nat) : Prop := (k.format.mul a b).isSome = true
def F.i2f (k : FloatKind) (n : Int) : Nat := k.nearest n
def F.f2i (s : FloatKind) (b : Nat) (k : IntKind) : Int := (floatToIntVal s b k).getD 0
def F.f2iOk (s : FloatKind) (b : Nat) (k : IntKind) : Prop := (floatToIntVal s b k).isSome = true
/-- Floats: compared, multiplied. -/
def fltS (op : BinOp) (k k' : FloatKind) (a b : Nat) : T SV :=
  if k = k' then
    match op with
    | .eql => boolS (F.feq k a b)
    | .neq => boolS (!F.feq k a b)
    | .lss => boolS (F.flt k a b)
    | .leq => boolS (F.flt k a b || F.feq k a b)
    | .gtr => boolS (F.fgt k a b)
    | .geq => boolS (F.fgt k a b || F.feq k a b)
    | .mul => .need (F.fmulOk k a b) (.ret (.c (.raw (.float k (F.fmul k a b)))))
    | _ => .fail
  else .fail
def binAllS (P : Program) (wrap : Bool) (op : BinOp) (t : TypeId) (x y : SV) : T SV :=
  match x, y with
  | .c (.int _ _), .c (.int _ _) | .c (.str _), .c (.str _) => binS wrap op x y
  | .c (.raw (.float k a)), .c (.raw (.float k' b)) => fltS op k k' a b
  | x, y => match op with
    | .eql => match eqS P t x y with
      | some b => boolS b
      | none => match nilS P t x y with
        | some (p, b) => .need p (boolS b)
        | none => .fail
    | .neq => match eqS P t x y with
      | some b => boolS (!b)
      | none => match nilS P t x y with
        | some (p, b) => .need p (boolS (!b))
        | none => .fail
    | _ => .fail

def unS (wrap : Bool) (op : UnOp) (x : SV) : T SV :=
  match op, x with
  | .neg, .c (.int k n) => arith wrap k (-n)
  | .not, x => match asBoolS x with
    | some b => boolS (!b)
    | none => .fail
  | _, _ => .fail

def zeroCells (P : Program) (t : TypeId) : Option (List Cell) :=
  match (P.info? t).bind (·.zero) with
  | some v => some (SV.ofValue v).cells
  | none => none
def partS (P : Program) (t : TypeId) (cs : List Cell) (off : Nat) : T SV :=
  if isAggB P t then .ret (.agg ((cs.drop off).take (P.cellsOf t)))
  else match cs[off]? with
    | some c => .ret (.c c)
    | none => .fail
def fillS (place : Nat → Option (Nat × Nat)) (cells : List Cell) : List (Nat × SV) → Option (List Cell)
  | [] => some cells
  | (i, v) :: rest =>
    match place i with
    | none => none
    | some (off, size) => if v.cells.length ≠ size ∨ off + size > cells.length ∨ v.cells.all Cell.one = false then none else fillS place (splice cells off v.cells) rest
def placesS (P : Program) (t : TypeId) : Option (Nat → Option (Nat × Nat)) :=
  match P.underlying t with
  | some (.array _ e) => (P.info? e).map fun ie i => some (i * ie.size, ie.size)
  | some (.struct fs) => (fs.toList.mapM fun f => (P.info? f.type).map fun i => (f.offset, i.size)).map fun pl i => pl.toArray[i]?
  | _ => none
def builtS (P : Program) (t : TypeId) (parts : List (Nat × SV)) : Option (List Cell) :=
  match zeroCells P t, placesS P t with
  | some z, some pl => fillS pl z parts
  | _, _ => none
def arrayOf (P : Program) (t : TypeId) : Bool :=
  match P.underlying t with
  | some (.array _ _) => true
  | _ => false
/-- A variable of this type; an array is a row where the config names it by 1000000 + its number. -/
def varObj (cfg : Cfg cod) (t : TypeId) (cs : List Cell) : HObj cod :=
  if arrayOf cfg.P t then
    match cfg.ctag (1000000 + t) with
    | none => .blk cs t
    | some u => match decAll (cod u) (cs.length / (cod u).size) cs with
      | some l => .arr u l t
      | none => .blk cs t
  else .blk cs t
def newS (H : Heap cod) (o : HObj cod) (v : SV) : T (Out cod) := .ret { v := v, H := H ++ [o] }
/-- A place that is kept for a variable still to be made. -/
def HObj.isHold : HObj cod → Bool
  | .inp t l => t == 0 && l.isEmpty
  | _ => false
/-- A new variable: behind the others, or in the place that is kept for it. -/
def mkNew (cfg : Cfg cod) (d : Option Nat) (H : Heap cod) (o : HObj cod) : T (Out cod) :=
  match d.bind cfg.place with
  | none => newS H o (.c (.ptr H.length 0 0))
  | some k => if (getObj H k).isHold = true then .ret { v := .c (.ptr k 0 0), H := H.set k o } else .fail

def isNewOp (o : Oper) : Bool :=
  match o.op with
  | .alloc _ => true
  | .box _ _ => true
  | _ => false

def idx : SV → Option Int
  | .c (.int _ i) => some i
  | _ => none
/-- A slice value: object, first element, number, whether its capacity is that number. -/
def asSlc : SV → Option (Nat × Nat × Nat × Bool)
  | .c (.slc h i n t) => some (h, i, n, t)
  | .c (.own h n) => some (h, 0, n, false)
  | _ => none

def indexAddrS (P : Program) (H : Heap cod) (t : TypeId) (x ix : SV) : T SV :=
  match P.underlying t, ix with
  | some (.array n e), .c (.int _ k) =>
    match x with
    | .c (.ptr h i o) =>
      match getObj H h with
      | .arr u _ _ =>
        if o = 0 ∧ P.cellsOf e = (cod u).size then .need (0 ≤ k ∧ k < n) (.ret (.c (.ptr h (i + k.toNat) 0)))
        else if o = 0 ∧ P.cellsOf e % (cod u).size = 0 ∧ P.cellsOf e ≠ 0 then .need (0 ≤ k ∧ k < n) (.ret (.c (.ptr h (i + k.toNat * (P.cellsOf e / (cod u).size)) 0)))
        else .fail
      | .blk _ _ | .rblk _ => match k with
        | .ofNat m => if m < n ∧ P.cellsOf e ≠ 0 then .ret (.c (.ptr h i (o + m * P.cellsOf e))) else .fail
        | _ => .fail
      | .sarr pre u m _ _ _ => if i = 0 ∧ o = pre.length ∧ P.cellsOf e = (cod u).size then .need (0 ≤ k ∧ k < n) (.ret (.c (.ptr h k.toNat o))) else .fail
      | .nown _ _ _ _ _ _ => if o = 0 ∧ P.cellsOf e = 1 then .need (0 ≤ k ∧ k < n) (.ret (.c (.ptr h (i + k.toNat) 0))) else .fail
      | _ => .fail
    | _ => .fail
  | some (.slice e), .c (.int _ k) =>
    match asSlc x with
    | some (h, i, n, _) =>
      match getObj H h with
      | .arr u _ _ | .own u _ _ | .inp u _ => if P.cellsOf e = (cod u).size then .need (0 ≤ k ∧ k < n) (.ret (.c (.ptr h (i + k.toNat) 0))) else .fail
      | .nin _ _ _ | .nown _ _ _ _ _ _ => if P.cellsOf e = 1 then .need (0 ≤ k ∧ k < n) (.ret (.c (.ptr h (i + k.toNat) 0))) else .fail
      | .blk _ _ | .rblk _ | .pblk _ => match k with
        | .ofNat m => if m < n ∧ P.cellsOf e ≠ 0 then .ret (.c (.ptr h i (m * P.cellsOf e))) else .fail
        | _ => .fail
      | _ => .fail
    | none => .fail
  | _, _ => .fail

def indexS (cfg : Cfg cod) (t : TypeId) (x ix : SV) : T SV :=
  match cfg.P.underlying t, x, ix with
  | some (.array n e), .agg cs, .c (.int _ k) =>
    if (cfg.P.underlying e).isSome then
      match cfg.ctag t with
      | some u =>
        if cfg.P.cellsOf e = (cod u).size then
          match decAll (cod u) n cs with
          | some l => .need (0 ≤ k ∧ k < n) (partS cfg.P e ((cod u).enc (l.getD k.toNat (cod u).d)) 0)
          | none => .fail
        else .fail
      | none => match k with
        | .ofNat m => if m < n then partS cfg.P e cs (m * cfg.P.cellsOf e) else .fail
        | _ => .fail
    else .fail
  | some .string, .c (.str s), .c (.int _ k) => .need (0 ≤ k ∧ k < s.length) (.ret (.c (.int .u8 (s.getD k.toNat 0).toNat)))
  | _, _, _ => .fail

def optIdx (lo : Option SV) (d : Int) : Option Int :=
  match lo with
  | none => some d
  | some v => idx v
def HObj.esz : HObj cod → Option Nat
  | .arr t _ _ | .own t _ _ | .inp t _ => some (cod t).size
  | .nin _ _ _ => some 1
  | .nown _ _ _ _ _ _ => some 1
  | _ => none
/-- A slice of an array that is a row. -/
def sliceA (P : Program) (H : Heap cod) (n : Nat) (e : TypeId) (x : SV) (lo : Option SV) : T SV :=
  match x with
  | .c (.ptr h i 0) =>
    if (getObj H h).esz = some (P.cellsOf e) ∧ n ≤ 1000000 then
      match lo with
      | none => .ret (.c (.slc h i n true))
      | some (.c (.int _ a)) => .need (0 ≤ a ∧ a ≤ n) (.ret (.c (.slc h (i + a.toNat) (n - a.toNat) true)))
      | _ => .fail
    else .fail
  | _ => .fail
def sliceS (P : Program) (H : Heap cod) (t : TypeId) (x : SV) (lo hi mx : Option SV) : T SV :=
  match P.underlying t with
  | some (.array m e) => match hi, mx with
    | none, none => sliceA P H m e x lo
    | _, _ => .fail
  | some .string =>
    match x, lo, hi, mx with
    | .c (.str s), none, some (.c (.int _ b)), none => .need (0 ≤ b ∧ b ≤ s.length) (.ret (.c (.str (s.take b.toNat))))
    | .c (.str s), some (.c (.int _ a)), none, none => .need (0 ≤ a ∧ a ≤ s.length) (.ret (.c (.str (s.drop a.toNat))))
    | .c (.str s), some (.c (.int _ a)), some (.c (.int _ b)), none => .need (0 ≤ a ∧ a ≤ b ∧ b ≤ s.length) (.ret (.c (.str ((s.drop a.toNat).take (b.toNat - a.toNat)))))
    | _, _, _, _ => .fail
  | some (.slice e) =>
    match asSlc x with
    | none => match x, lo, hi, mx with
      | .c .nil, none, some (.c (.int _ b)), some (.c (.int _ m)) => if (P.info? e).isSome then .need (b = 0 ∧ m = 0) (.ret (.c .nil)) else .fail
      | _, _, _, _ => .fail
    | some (h, i, n, t) =>
      if (getObj H h).esz = some (P.cellsOf e) then
        match lo, hi, mx with
        | none, some (.c (.int _ b)), none => .need (0 ≤ b ∧ b ≤ n) (.ret (.c (.slc h i b.toNat false)))
        | some (.c (.int _ a)), none, none => .need (0 ≤ a ∧ a ≤ n) (.ret (.c (.slc h (i + a.toNat) (n - a.toNat) t)))
        | some (.c (.int _ a)), some (.c (.int _ b)), none => .need (0 ≤ a ∧ a ≤ b ∧ b ≤ n) (.ret (.c (.slc h (i + a.toNat) (b.toNat - a.toNat) false)))
        | none, some (.c (.int _ b)), some (.c (.int _ m)) => .need (0 ≤ b ∧ b ≤ n ∧ m = b) (.ret (.c (.slc h i b.toNat true)))
        | _, _, _ => .fail
      else .fail
  | _ => .fail

def convS (P : Program) (wrap : Bool) (src dst : TypeId) (x : SV) : T SV :=
  match P.underlying src, P.underlying dst, x with
  | some _, some (.int k), .c (.int _ n) => arith wrap k n
  | some _, some .string, .c (.str s) => .ret (.c (.str s))
  | some _, some (.float k), .c (.int _ n) => .ret (.c (.raw (.float k (F.i2f k n))))
  | some _, some (.int k), .c (.raw (.float s b)) => .need (F.f2iOk s b k) (.ret (.c (.int k (F.f2i s b k))))
  | _, _, _ => .fail

def foldS (f : Int → Int → Int) (k : IntKind) : Int → List SV → Option Int
  | a, [] => some a
  | a, .c (.int k' b) :: xs => if k = k' then foldS f k (f a b) xs else none
  | _, _ => none

/-- The elements of kind u that a slice shows, and whether there are as many as it says. -/
def rowsOf (u : Nat) (H : Heap cod) (x : SV) : T (List (cod u).α) :=
  match x with
  | .c (.own h _) => match getObj H h with
    | .own u' l _ => if hu : u' = u then .ret (hu ▸ l) else .fail
    | _ => .fail
  | .c (.slc h i n _) => match (getObj H h).rows cod u with
    | some l => .need (((l.drop i).take n).length = n) (.ret ((l.drop i).take n))
    | none => .fail
  | _ => .fail

/-- The cells of a block that is known, from its front. -/
def HObj.front : HObj cod → Option (List Cell)
  | .blk cs _ | .rblk cs | .pblk cs => some cs
  | _ => none
/-- Elements of no kind, appended to nil: a block of its own, known from its front. -/
def appendN (cfg : Cfg cod) (H : Heap cod) (e : TypeId) (s x : SV) : T (Out cod) :=
  match s, x with
  | .c .nil, .c (.slc h i n _) => match (getObj H h).front with
    | some cs =>
      if i = 0 ∧ 0 < n ∧ n ≤ 1000000 ∧ 0 < cfg.P.cellsOf e ∧ n * cfg.P.cellsOf e ≤ cs.length ∧ (cs.take (n * cfg.P.cellsOf e)).all Cell.one = true ∧ cfg.P.bytesOf e ≤ 100000 ∧ (zeroCells cfg.P e).map List.length = some (cfg.P.cellsOf e) then
        .ret { v := .c (.slc H.length 0 n false), H := H ++ [.pblk (cs.take (n * cfg.P.cellsOf e))] }
      else .fail
    | none => .fail
  | _, _ => .fail
def orNone (cfg : Cfg cod) (n : Nat) (a : Out cod) (t : T (Out cod)) : T (Out cod) := if cfg.empB = true then .ite (decide (n = 0)) (.ret a) t else t
/-- An append to nil: of some elements; of none too, if the config says so. -/
def nilA (b : Bool) (n : Nat) (R : Out cod) : T (Out cod) :=
  match b with
  | true => .need (n ≤ 1000000) (.ret R)
  | false => .need (0 < n ∧ n ≤ 1000000) (.ret R)
theorem nilA_gives {b : Bool} {n : Nat} {R out : Out cod} (h : (nilA b n R).gives out) : n ≤ 1000000 ∧ R = out := by
  cases b with
  | true => exact ⟨h.1, h.2⟩
  | false => exact ⟨h.1.2, h.2⟩
theorem nilA_mk {b : Bool} {n : Nat} {R out : Out cod} (R' : Out cod) (h : (nilA b n R).gives out) : (nilA b n R').gives R' := by
  cases b with
  | true => exact ⟨h.1, rfl⟩
  | false => exact ⟨h.1, rfl⟩
def appendS (cfg : Cfg cod) (H : Heap cod) (t : TypeId) (s x : SV) : T (Out cod) :=
  match cfg.P.underlying t with
  | some (.slice e) =>
    match cfg.ctag e with
    | none => appendN cfg H e s x
    | some u =>
      if cfg.P.cellsOf e = (cod u).size ∧ cfg.P.bytesOf e ≤ 100000 ∧ (zeroCells cfg.P e).map List.length = some (cfg.P.cellsOf e) then
        (rowsOf u H x).bind fun l' =>
          match s with
          | .c (.own h n) =>
            match getObj H h with
            | .own u' l ty => if hu : u' = u then
                if ty = e then
                  .need (n + l'.length ≤ 1000000) (.ret { v := .c (.own h (n + l'.length)), H := (H.set h (.own u ((hu ▸ l) ++ l') e)).map (HObj.mapC (Cell.killed [h])), kill := [h] })
                else .fail
              else .fail
            | _ => .fail
          | .c (.slc h i n true) => if cfg.emp = true then .need (l'.length = 0) (.ret { v := .c (.slc h i n true), H := H }) else
            orNone cfg l'.length { v := .c (.slc h i n true), H := H } ((rowsOf u H (.c (.slc h i n true))).bind fun l =>
              .need (0 < l'.length ∧ n + l'.length ≤ 1000000) (.ret { v := .c (.own H.length (n + l'.length)), H := H ++ [.own u (l ++ l') e] }))
          | .c .nil => nilA cfg.empB l'.length { v := .c (.own H.length l'.length), H := H ++ [.own u l' e] }
          | _ => .fail
      else .fail
  | _ => .fail

/-- 'clear' at a slice of a row that the call owns. -/
def clearS (cfg : Cfg cod) (H : Heap cod) (t : TypeId) (x : SV) : T (Out cod) :=
  match cfg.P.underlying t, asSlc x with
  | some (.slice e), some (h, i, n, _) => match getObj H h, zeroCells cfg.P e with
    | .own u l ty, some zc => if (cod u).ok zc = true ∧ zc.length = (cod u).size then
        .need (i + n ≤ l.length) (.ret { v := .tup [], H := H.set h (.own u (l.take i ++ (List.replicate n ((cod u).dec zc) ++ l.drop (i + n))) ty) }) else .fail
    | _, _ => .fail
  | _, _ => .fail
/-- 'copy' to a slice of a row that the call owns, of elements of one cell. -/
def copyS (cfg : Cfg cod) (H : Heap cod) (t : TypeId) (x y : SV) : T (Out cod) :=
  match cfg.P.underlying t, asSlc x with
  | some (.slice e), some (h, i, n, _) => match getObj H h with
    | .own u l ty => if (cod u).size = 1 ∧ cfg.P.cellsOf e = 1 then
        (rowsOf u H y).bind fun l' => .need (i + n ≤ l.length) (.ret { v := .c (.int .i64 (Nat.min l'.length n : Nat)), H := H.set h (.own u (l.take i ++ (l'.take n ++ l.drop (i + Nat.min l'.length n))) ty) }) else .fail
    | _ => .fail
  | _, _ => .fail
def builtinS (cfg : Cfg cod) (H : Heap cod) (b : Builtin) (ts : Array TypeId) (args : List SV) : T (Out cod) :=
  match b, args with
  | .len, [x] =>
    match (ts[0]?).bind cfg.P.underlying, x with
    | some .string, .c (.str s) => .ret { v := .c (.int .i64 s.length), H := H }
    | some (.array n _), _ => .ret { v := .c (.int .i64 n), H := H }
    | some (.slice _), x => match asSlc x with
      | some (_, _, n, _) => .ret { v := .c (.int .i64 n), H := H }
      | none => match x with
        | .c .nil => .ret { v := .c (.int .i64 0), H := H }
        | _ => .fail
    | _, _ => .fail
  | .max, .c (.int k a) :: xs => match foldS max k a xs with
    | some n => .ret { v := .c (.int k n), H := H }
    | none => .fail
  | .min, .c (.int k a) :: xs => match foldS min k a xs with
    | some n => .ret { v := .c (.int k n), H := H }
    | none => .fail
  | .append, [s, x] =>
    match ts[0]?, ts[1]? with
    | some t, some t' => if t = t' then appendS cfg H t s x else .fail
    | _, _ => .fail
  | .clear, [x] => match ts[0]? with
    | some t => clearS cfg H t x
    | none => .fail
  | .copy, [x, y] => match ts[0]? with
    | some t => copyS cfg H t x y
    | none => .fail
  | _, _ => .fail

def HObj.wr : HObj cod → Bool
  | .blk _ _ | .pblk _ | .arr _ _ _ | .own _ _ _ | .sarr _ _ _ _ _ _ | .nown _ _ _ _ _ _ => true
  | _ => false

/-! ### a call: the objects that its arguments reach, numbered anew; what comes back, numbered back -/
def SV.hs : SV → List Nat
  | .c x => x.hs
  | .agg cs => cs.flatMap Cell.hs
  | .tup vs => vs.flatMap fun | .c x => x.hs | .agg cs => cs.flatMap Cell.hs | _ => []
def HObj.hs : HObj cod → List Nat
  | .blk cs _ => cs.flatMap Cell.hs
  | .rblk cs => cs.flatMap Cell.hs
  | .pblk cs => cs.flatMap Cell.hs
  | .nin _ _ op => match op with
    | some p => p.2.hs
    | none => []
  | .nown _ _ _ cs _ _ => cs.flatMap Cell.hs
  | _ => []
def addNew : List Nat → List Nat → List Nat
  | acc, [] => acc
  | acc, h :: l => if acc.contains h then addNew acc l else addNew (acc ++ [h]) l
def reach (H : Heap cod) : Nat → List Nat → List Nat
  | 0, l => l
  | d + 1, l => reach H d (addNew l (l.flatMap fun h => (getObj H h).hs))
def Cell.ren (ρ : Nat → Nat) : Cell → Cell
  | .ptr h i o => .ptr (ρ h) i o
  | .slc h i n t => .slc (ρ h) i n t
  | .own h n => .own (ρ h) n
  | .fn f caps => .fn f (caps.map fun c => (ρ c.1, c.2))
  | c => c
/-- The same, read only: an owned slice is a slice. -/
def Cell.ro (ρ : Nat → Nat) : Cell → Cell
  | .own h n => .slc (ρ h) 0 n false
  | .raw (.bool b) => .bool b
  | c => c.ren ρ
def HObj.ro (ρ : Nat → Nat) : HObj cod → HObj cod
  | .blk cs _ => .rblk (cs.map (Cell.ro ρ))
  | .rblk cs => .rblk (cs.map (Cell.ro ρ))
  | .pblk cs => .rblk (cs.map (Cell.ro ρ))
  | .arr t l _ => .inp t l
  | .own t l _ => .inp t l
  | .inp t l => .inp t l
  | .nin t LL _ => .nin t LL none
  | .sarr _ _ _ _ _ _ => .dead
  | .nown t LL [] _ ty _ => if ty < 1000000 then .nin t LL none else .dead
  | .nown _ _ (_ :: _) _ _ _ => .dead
  | .dead => .dead
def HObj.isOwn : HObj cod → Bool
  | .own _ _ _ => true
  | _ => false
/-- A call that writes to the objects that it is handed: its summary hands all of them back, those that it has made behind them. -/
def callI (H : Heap cod) (kp : Bool) (s : Summ cod) (args : List SV) : T (Out cod) :=
  let hs := reach H 3 (addNew [] (args.flatMap SV.hs))
  let ρ := fun h => hs.idxOf h
  let back := fun i => if i < hs.length then hs.getD i 0 else H.length + (i - hs.length)
  let ks := hs.filter fun h => !kp && (getObj H h).isOwn
  if (args.flatMap SV.hs).all hs.contains ∧ hs.all (fun h => decide (h < H.length) && (getObj H h).hs.all hs.contains) then
    (s (args.map (SV.mapC (Cell.ren ρ))) (hs.map fun h => (getObj H h).mapC (Cell.ren ρ))).bind fun r =>
      if hs.length ≤ r.2.length ∧ (r.2.drop hs.length).all HObj.wr ∧ r.1.hs.all (fun i => decide (i < r.2.length)) ∧
          (List.range hs.length).all (fun i => (getObj r.2 i).wr == (getObj H (hs.getD i 0)).wr && ((getObj H (hs.getD i 0)).isOwn || !(getObj r.2 i).isOwn)) then
        .ret { v := r.1.mapC (Cell.ren back), kill := ks,
               H := ((List.range H.length).map fun h => if hs.contains h && (getObj H h).wr then (getObj r.2 (ρ h)).mapC (Cell.ren back) else (getObj H h).mapC (Cell.killed ks)) ++ (r.2.drop hs.length).map (HObj.mapC (Cell.ren back)) }
      else .fail
  else .fail
def callR (cfg : Cfg cod) (H : Heap cod) (g : FuncId) (s : Summ cod) (args : List SV) : T (Out cod) :=
  let hs := reach H 3 (addNew [] (args.flatMap SV.hs))
  let ρ := fun h => hs.idxOf h
  let back := fun i => if i < hs.length then hs.getD i 0 else H.length + (i - hs.length)
  if (args.flatMap SV.hs).all hs.contains ∧ hs.all (fun h => decide (h < H.length) && (getObj H h).hs.all hs.contains) then
    (s (args.map (SV.mapC (Cell.ro ρ))) (hs.map fun h => (getObj H h).ro ρ)).bind fun r =>
      if r.2.all HObj.wr ∧ r.1.hs.all (fun i => decide (i < hs.length + r.2.length)) ∧ (cfg.quiet g = true → r.2 = []) then .ret { v := r.1.mapC (Cell.ren back), H := H ++ r.2.map (HObj.mapC (Cell.ren back)) } else .fail
  else .fail
def callS (cfg : Cfg cod) (H : Heap cod) (g : FuncId) (args : List SV) : T (Out cod) :=
  match cfg.summ g with
  | some s => callR cfg H g s args
  | none => match cfg.summI g with
    | some s => callI H s.1 s.2 args
    | none => .fail

def capsOf : List SV → Option (List (Nat × Nat × Nat))
  | [] => some []
  | .c (.ptr h i o) :: l => (capsOf l).map ((h, i, o) :: ·)
  | _ => none

/-- 1: a string's bytes as a new row; 2: a row's bytes as a string; 3: a constant's bytes, marked. -/
def bytesConv (P : Program) (s d : TypeId) : Nat :=
  match P.underlying s, P.underlying d with
  | some .string, some (.slice _) => 1
  | some (.slice _), some .string => 2
  | some (.slice _), some (.slice _) => 3
  | _, _ => 0
def toBytesS (cfg : Cfg cod) (H : Heap cod) (d : TypeId) (x : SV) : T (Out cod) :=
  match cfg.P.underlying d, x with
  | some (.slice e), .c (.str bs) =>
    match cfg.P.underlying e, cfg.ctag e with
    | some (.int .u8), some u => if (cod u).size = 1 then .need ((∀ n : Int, (cod u).ok [.int .u8 n] = true) ∧ bs.length ≤ 9223372036854775807) (newS H (.inp u (bs.map fun b => (cod u).dec [.int .u8 (b.toNat : Int)])) (.c (.slc H.length 0 bs.length false))) else .fail
    | _, _ => .fail
  | _, _ => .fail
def byteOf (c : Codec) (a : c.α) : UInt8 :=
  match c.enc a with
  | [.int _ n] => UInt8.ofNat n.toNat
  | _ => 0
def ofBytesS (cfg : Cfg cod) (H : Heap cod) (s : TypeId) (x : SV) : T SV :=
  match cfg.P.underlying s with
  | some (.slice e) =>
    match cfg.P.underlying e, cfg.ctag e with
    | some (.int .u8), some u => (rowsOf u H x).bind fun l => .need (∀ a : (cod u).α, ∃ n, (cod u).enc a = [.int .u8 n]) (.ret (.c (.str (l.map (byteOf (cod u))))))
    | _, _ => .fail
  | _ => .fail

/-- The bytes of a constant, made by a literal and converted to their own type: their block is marked, and only read from now on. -/
def markS (P : Program) (H : Heap cod) (s d : TypeId) (x : SV) : T (Out cod) :=
  match P.underlying d, x with
  | some (.slice e), .c (.slc h 0 n t) => match getObj H h, P.underlying e with
    | .arr u l _, some (.int .u8) => if s = d ∧ 0 < n then .ret { v := .c (.slc h 0 n t), H := H.set h (.inp u l) } else .fail
    | _, _ => .fail
  | _, _ => .fail
/-- A function of the model's own table: math.Float64bits, math.Float64frombits. -/
def isExt (P : Program) (g : FuncId) : Bool :=
  match P.funcs[g]? with
  | some fn => fn.body.isNone && (fn.origin == "" && (fn.name == "math.Float64bits" || fn.name == "math.Float64frombits"))
  | none => false
def extS (P : Program) (g : FuncId) (args : List SV) : T SV :=
  match P.funcs[g]? with
  | some fn =>
    if fn.name = "math.Float64bits" then
      match args with
      | [.c (.raw (.float .f64 b))] => .ret (.c (.int .u64 b))
      | _ => .fail
    else
      match args with
      | [.c (.int .u64 n)] => .ret (.c (.raw (.float .f64 n.toNat)))
      | _ => .fail
  | none => .fail
def nilConst : Operand → Bool
  | .const (.slice none 0 0) => true
  | _ => false
def opS (cfg : Cfg cod) (tm : List SV) (H : Heap cod) (o : Oper) : T (Out cod) :=
  let keep (t : T SV) : T (Out cod) := t.bind fun v => .ret { v := v, H := H }
  match o.op with
  | .move x | .assign x =>
    match nilConst x, cfg.P.underlying o.type with
    | true, some (.slice e) => match cfg.ctag e with
      | some u => newS H (.own u [] e) (.c (.own H.length 0))
      | none => .ret { v := evS tm x, H := H }
    | _, _ => .ret { v := evS tm x, H := H }
  | .pick c a b =>
    match evS tm c with
    | .c (.bool b') => .ite b' (.ret { v := evS tm a, H := H }) (.ret { v := evS tm b, H := H })
    | _ => .fail
  | .alloc e => match zeroCells cfg.P e with
    | some cs => mkNew cfg o.dst H (varObj cfg e cs)
    | none => .fail
  | .box e x => if (evS tm x).cells.all Cell.one then mkNew cfg o.dst H (varObj cfg e (evS tm x).cells) else .fail
  | .build t parts =>
    match builtS cfg.P t (parts.toList.map fun p => (p.1, evS tm p.2)) with
    | some cs => .ret { v := .agg cs, H := H }
    | none => .fail
  | .buildSlice t n parts =>
    match cfg.P.underlying t with
    | some (.slice e) =>
      match fillS (fun i => some (i * cfg.P.cellsOf e, cfg.P.cellsOf e)) (List.replicate (n * cfg.P.cellsOf e) .junk) (parts.toList.map fun p => (p.1, evS tm p.2)), cfg.ctag e with
      | some cs, some u => match decAll (cod u) n cs with
        | some l => if n * cfg.P.cellsOf e ≤ 65536 ∧ cfg.P.cellsOf e = (cod u).size ∧ (zeroCells cfg.P e).isSome then newS H (.arr u l e) (.c (.slc H.length 0 n true)) else .fail
        | none => .fail
      | some cs, none => if n * cfg.P.cellsOf e ≤ 65536 ∧ cfg.P.cellsOf e ≠ 0 ∧ (zeroCells cfg.P e).isSome then newS H (.blk cs e) (.c (.slc H.length 0 n true)) else .fail
      | _, _ => .fail
    | _ => .fail
  | .load t x =>
    match evS tm x with
    | .c (.ptr h i o) =>
      if isAggB cfg.P t then keep ((loadS H h i o (cfg.P.cellsOf t)).bind fun cs => .ret (.agg cs))
      else if (cfg.P.underlying t).isSome then keep ((loadS H h i o 1).bind fun cs => match cs with
        | [c] => .ret (.c c)
        | _ => .fail)
      else .fail
    | _ => .fail
  | .store t x y =>
    match evS tm x with
    | .c (.ptr h i o) =>
      if (evS tm y).cells.length = cfg.P.cellsOf t ∧ (evS tm y).cells.all Cell.one ∧ cfg.P.cellsOf t ≠ 0 then (storeS H h i o (evS tm y).cells).bind fun H' => .ret { v := undefS, H := H' } else .fail
    | _ => .fail
  | .nilCheck x =>
    match evS tm x with
    | .c (.ptr h i o) => .ret { v := .c (.ptr h i o), H := H }
    | .c (.fn f caps) => .ret { v := .c (.fn f caps), H := H }
    | _ => .fail
  | .binOp op t x y _ => keep (binAllS cfg.P cfg.wrap op t (evS tm x) (evS tm y))
  | .unOp op _ x => keep (unS cfg.wrap op (evS tm x))
  | .convert s d x =>
    match bytesConv cfg.P s d with
    | 1 => toBytesS cfg H d (evS tm x)
    | 2 => keep (ofBytesS cfg H s (evS tm x))
    | 3 => markS cfg.P H s d (evS tm x)
    | _ => keep (convS cfg.P cfg.wrap s d (evS tm x))
  | .slice t x lo hi mx => keep (sliceS cfg.P H t (evS tm x) (lo.map (evS tm)) (hi.map (evS tm)) (mx.map (evS tm)))
  | .fieldAddr t x f =>
    match evS tm x, cfg.P.underlying t with
    | .c (.ptr h i o), some (.struct fs) => match fs[f]? with
      | some fl => if cfg.P.cellsOf fl.type = 0 then .fail else .ret { v := .c (.ptr h i (o + fl.offset)), H := H }
      | none => .fail
    | _, _ => .fail
  | .field t x f =>
    match evS tm x, cfg.P.underlying t with
    | .agg cs, some (.struct fs) => match fs[f]? with
      | some fl => if (cfg.P.underlying fl.type).isSome then keep (partS cfg.P fl.type cs fl.offset) else .fail
      | none => .fail
    | _, _ => .fail
  | .indexAddr t x ix => keep (indexAddrS cfg.P H t (evS tm x) (evS tm ix))
  | .index t x ix => keep (indexS cfg t (evS tm x) (evS tm ix))
  | .extract t i =>
    match evS tm t with
    | .tup vs => match vs[i]? with
      | some v => .ret { v := v, H := H }
      | none => .fail
    | _ => .fail
  | .makeSlice t n c =>
    match cfg.P.underlying t, evS tm n, evS tm c with
    | some (.slice e), .c (.int _ n), .c (.int _ c) =>
      match cfg.ctag e, zeroCells cfg.P e with
      | some u, some z =>
        if (cod u).ok z ∧ cfg.P.cellsOf e = (cod u).size ∧ cfg.P.bytesOf e ≤ 100000 then
          .need (0 ≤ n ∧ n ≤ 1000000 ∧ c = n) (newS H (.arr u (List.replicate n.toNat ((cod u).dec z)) e) (.c (.slc H.length 0 n.toNat true)))
        else .fail
      | _, _ => .fail
    | _, _, _ => .fail
  | .makeFunc (.func f) first caps =>
    if first.size = 0 then
      match capsOf (caps.toList.map (evS tm)) with
      | some l => .ret { v := .c (.fn f l), H := H }
      | none => .fail
    else .fail
  | .call { callee := .builtin b, args, argTypes } => builtinS cfg H b argTypes (args.toList.map (evS tm))
  | .call { callee := .value f, args, .. } =>
    match evS tm f with
    | .c (.fn g caps) => if isExt cfg.P g = true then keep (extS cfg.P g (args.toList.map (evS tm) ++ caps.map fun c => .c (.ptr c.1 c.2.1 c.2.2))) else callS cfg H g (args.toList.map (evS tm) ++ caps.map fun c => .c (.ptr c.1 c.2.1 c.2.2))
    | _ => .fail
  | _ => .fail

/-! ### the state behind it; a region; the code -/
def St.put (st : St cod) (d : Option Nat) (o : Out cod) : St cod :=
  let tm := match o.kill with
    | [] => st.tmps
    | ks => st.tmps.map (SV.mapC (Cell.killed ks))
  { tmps := match d with
      | none => tm
      | some d => tm.set d o.v,
    heap := o.H }
/-- What the operation at index j yielded: known or not, and what. -/
def yieldS (ops : Array Oper) (st : St cod) (j : Nat) : SV :=
  match (ops[j]?).bind (·.dst) with
  | none => undefS
  | some d => st.tmps.getD d (.c .junk)
/-- The same state, a boolean that is known now written out. -/
def St.know (st : St cod) (d : Option Nat) (b : Bool) : St cod :=
  match d with
  | none => st
  | some d => { st with tmps := st.tmps.set d (.c (.bool b)) }
/-- The operations whose new row may go into a kept place. -/
def isMoved (o : Oper) : Bool :=
  match o.op with
  | .buildSlice _ _ _ => true
  | .makeSlice _ _ _ => true
  | .call { callee := .builtin .append, .. } => true
  | _ => false
def HObj.isRow : HObj cod → Bool
  | .arr _ _ _ | .own _ _ _ => true
  | _ => false
/-- The one new row at place k. -/
def moveS (H : Heap cod) (k : Nat) (out : Out cod) : T (Out cod) :=
  match out.kill, out.H.drop H.length, out.v with
  | [], [ob], .c (.slc h 0 n t) => if h = H.length ∧ (getObj H k).isHold = true ∧ ob.isRow = true then .ret { v := .c (.slc k 0 n t), H := H.set k ob } else .fail
  | [], [ob], .c (.own h n) => if h = H.length ∧ (getObj H k).isHold = true ∧ ob.isRow = true then .ret { v := .c (.own k n), H := H.set k ob } else .fail
  | [h'], [], .c (.own h n) => if h' = h ∧ (getObj H k).isHold = true ∧ (getObj H h).isOwn = true ∧ (getObj out.H h).isOwn = true then .ret { v := .c (.own k n), H := (H.set h .dead).set k (getObj out.H h) } else .fail
  | [], [], .c (.slc h i n t) => if (getObj H k).isHold = true then .ret { v := .c (.slc h i n t), H := H } else .fail
  | _, _, _ => .fail
/-- The own row that an append grows. -/
def ownHs (tm : List SV) (o : Oper) : List Nat :=
  match o.op with
  | .call { callee := .builtin .append, args, .. } => match args.toList.map (evS tm) with
    | [.c (.own h _), _] => [h]
    | _ => []
  | _ => []
def opP (cfg : Cfg cod) (tm : List SV) (H : Heap cod) (o : Oper) : T (Out cod) :=
  match isMoved o, o.dst.bind cfg.place with
  | true, some k => (opS cfg tm H o).bind (moveS H k)
  | _, _ => opS cfg tm H o
def stepS (cfg : Cfg cod) (o : Oper) (st : St cod) : T (St cod) := (opP cfg st.tmps st.heap o).bind fun out => .ret (st.put o.dst out)
def skipS (o : Oper) (st : St cod) : St cod := st.put o.dst { v := undefS, H := st.heap }
def tmpOf : Operand → Option Nat
  | .tmp t => some t
  | _ => none
/-- One operation, and what follows. -/
def stepK {R : Type} (cfg : Cfg cod) (o : Oper) (st : St cod) (next : St cod → T R) : T R :=
  match o.op with
  | .pick c a b => match evS st.tmps c with
    | .c (.bool q) => cond q (next ((st.know (tmpOf c) true).put o.dst { v := evS st.tmps a, H := st.heap })) (next ((st.know (tmpOf c) false).put o.dst { v := evS st.tmps b, H := st.heap }))
    | _ => .fail
  | _ => (stepS cfg o st).bind next
/-- The operations of a region in the text's order, and what follows. -/
def symOps {R : Type} (cfg : Cfg cod) (ops : Array Oper) : List Oper → St cod → (St cod → T R) → T R
  | [], st, k => k st
  | o :: rest, st, k =>
    match o.guard with
    | none => stepK cfg o st fun s => symOps cfg ops rest s k
    | some (j, want) =>
      match yieldS ops st j with
      | .c (.bool b) =>
        cond b (cond (true == want) (stepK cfg o (st.know ((ops[j]?).bind (·.dst)) true) fun s => symOps cfg ops rest s k) (symOps cfg ops rest (skipS o (st.know ((ops[j]?).bind (·.dst)) true)) k))
          (cond (false == want) (stepK cfg o (st.know ((ops[j]?).bind (·.dst)) false) fun s => symOps cfg ops rest s k) (symOps cfg ops rest (skipS o (st.know ((ops[j]?).bind (·.dst)) false)) k))
      | .c (.raw (.tuple ⟨[]⟩)) => symOps cfg ops rest (skipS o st) k
      | _ => .fail
end
end Go.Proofs.YtiolfkmkbccndaaGreatDoor.Sym
