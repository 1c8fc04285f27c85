/- A symbolic run: what a symbolic state says of a frame and a world. -/
import Derived.Test.YtiolfkmkbccndaaGreatDoorBd2
namespace Go.Proofs.YtiolfkmkbccndaaGreatDoor.Sym
open Go.RowKit

/-- Where an object lies: its block, the offset of its first element, the cells of one element; an owned slice's value. -/
structure HV where
  block : Nat
  off : Nat
  esize : Nat
  val : Value
  rows : List Value
abbrev Env := Nat → HV
def HV.addr (x : HV) (i o : Nat) : Addr := ⟨x.block, x.off + (i * x.esize + o), none⟩

/-- Two lists side by side. -/
inductive F2 {α β : Type} (R : α → β → Prop) : List α → List β → Prop where
  | nil : F2 R [] []
  | cons {a : α} {b : β} {l : List α} {m : List β} (h : R a b) (t : F2 R l m) : F2 R (a :: l) (b :: m)

def crel (env : Env) (N : Nat) : Cell → Value → Prop
  | .int k n, v => v = .int k n
  | .bool b, v => v = .bool b
  | .str s, v => v = .string ⟨s.toArray⟩
  | .ptr h i o, v => h < N ∧ v = .pointer (some ((env h).addr i o))
  | .slc h i n t, v => h < N ∧ ∃ A c, v = .slice A n c ∧ n ≤ c ∧ c ≤ maxLen ∧ (t = true → c = n) ∧ (0 < n → A = some ((env h).addr i 0))
  | .own h n, v => h < N ∧ v = (env h).val ∧ ∃ A c, v = .slice A n c ∧ n ≤ c ∧ c ≤ maxLen ∧ (0 < n → A = some ((env h).addr 0 0))
  | .nil, v => v = .slice none 0 0
  | .fn f caps, v => (∀ c ∈ caps, c.1 < N) ∧ v = .func (.func f) #[] (caps.map fun c => Value.pointer (some ((env c.1).addr c.2.1 c.2.2))).toArray
  | .raw u, v => v = u
  | .junk, _ => True
def crels (env : Env) (N : Nat) (cs : List Cell) (vs : List Value) : Prop := F2 (crel env N) cs vs
def vrel1 (env : Env) (N : Nat) : SV → Value → Prop
  | .c x, v => crel env N x v
  | .agg cs, v => ∃ vs, v = .agg vs ∧ crels env N cs vs.toList
  | .tup _, _ => False
def vrel (env : Env) (N : Nat) : SV → Value → Prop
  | .tup l, v => ∃ vs, v = .tuple vs ∧ F2 (vrel1 env N) l vs.toList
  | x, v => vrel1 env N x v
/-- Two environments that agree on the objects below N. -/
def EnvEq (N : Nat) (env env' : Env) : Prop := ∀ h, h < N → env' h = env h
theorem EnvEq.refl (N : Nat) (env : Env) : EnvEq N env env := fun _ _ => rfl
theorem EnvEq.trans {N : Nat} {a b c : Env} (h : EnvEq N a b) (k : EnvEq N b c) : EnvEq N a c := fun i hi => (k i hi).trans (h i hi)
theorem EnvEq.mono {N M : Nat} {a b : Env} (h : EnvEq N a b) (hM : M ≤ N) : EnvEq M a b := fun i hi => h i (by omega)

theorem crel_mono {env env' : Env} {N N' : Nat} (hN : N ≤ N') (he : EnvEq N env env') {c : Cell} {v : Value} (h : crel env N c v) : crel env' N' c v := by
  cases c <;> simp only [crel] at h ⊢ <;> try exact h
  case ptr x i o => exact ⟨by omega, by rw [he x h.1]; exact h.2⟩
  case slc x i n t =>
    obtain ⟨h1, A, c, h2, h3, h4, h5, h6⟩ := h
    exact ⟨by omega, A, c, h2, h3, h4, h5, by rw [he x h1]; exact h6⟩
  case own x n =>
    obtain ⟨h1, h2, A, c, h3, h4, h5, h6⟩ := h
    exact ⟨by omega, by rw [he x h1]; exact h2, A, c, h3, h4, h5, by rw [he x h1]; exact h6⟩
  case fn f caps =>
    obtain ⟨h1, rfl⟩ := h
    refine ⟨fun c hc => by have := h1 c hc; omega, ?_⟩
    congr 2
    exact List.map_congr_left fun c hc => by rw [he c.1 (h1 c hc)]
theorem forall2_mono {α β : Type} {R S : α → β → Prop} (h : ∀ a b, R a b → S a b) : ∀ {l : List α} {m : List β}, F2 R l m → F2 S l m
  | _, _, .nil => .nil
  | _, _, .cons x xs => .cons (h _ _ x) (forall2_mono h xs)
theorem crels_mono {env env' : Env} {N N' : Nat} (hN : N ≤ N') (he : EnvEq N env env') {cs : List Cell} {vs : List Value} (h : crels env N cs vs) : crels env' N' cs vs :=
  forall2_mono (fun _ _ h => crel_mono hN he h) h
theorem vrel1_mono {env env' : Env} {N N' : Nat} (hN : N ≤ N') (he : EnvEq N env env') {x : SV} {v : Value} (h : vrel1 env N x v) : vrel1 env' N' x v := by
  cases x with
  | c x => exact crel_mono hN he h
  | agg cs => obtain ⟨vs, h1, h2⟩ := h; exact ⟨vs, h1, crels_mono hN he h2⟩
  | tup l => exact h
theorem vrel_mono {env env' : Env} {N N' : Nat} (hN : N ≤ N') (he : EnvEq N env env') {x : SV} {v : Value} (h : vrel env N x v) : vrel env' N' x v := by
  cases x with
  | c x => exact crel_mono hN he h
  | agg cs => exact vrel1_mono (x := .agg cs) hN he h
  | tup l => obtain ⟨vs, h1, h2⟩ := h; exact ⟨vs, h1, forall2_mono (fun _ _ h => vrel1_mono hN he h) h2⟩

/-! ### lists that go side by side -/
theorem f2_length {α β : Type} {R : α → β → Prop} : ∀ {l : List α} {m : List β}, F2 R l m → l.length = m.length
  | _, _, .nil => rfl
  | _, _, .cons _ xs => by simp [f2_length xs]
theorem f2_get {α β : Type} {R : α → β → Prop} : ∀ {l : List α} {m : List β}, F2 R l m → ∀ {i : Nat} {a : α}, l[i]? = some a → ∃ b, m[i]? = some b ∧ R a b
  | _, _, .nil, i, a, h => by simp at h
  | _, _, .cons (a := x) (b := y) hx xs, 0, a, h => by simp at h; subst h; exact ⟨y, by simp, hx⟩
  | _, _, .cons hx xs, i + 1, a, h => by
    obtain ⟨b, h1, h2⟩ := f2_get xs (i := i) (by simpa using h)
    exact ⟨b, by simpa using h1, h2⟩
theorem f2_append {α β : Type} {R : α → β → Prop} {l l' : List α} {m m' : List β} (h : F2 R l m) (h' : F2 R l' m') : F2 R (l ++ l') (m ++ m') := by
  induction h with
  | nil => exact h'
  | cons x _ ih => exact .cons x ih
theorem f2_take {α β : Type} {R : α → β → Prop} : ∀ {l : List α} {m : List β} (n : Nat), F2 R l m → F2 R (l.take n) (m.take n)
  | _, _, 0, _ => .nil
  | _, _, _ + 1, .nil => .nil
  | _, _, n + 1, .cons x xs => .cons x (f2_take n xs)
theorem f2_drop {α β : Type} {R : α → β → Prop} : ∀ {l : List α} {m : List β} (n : Nat), F2 R l m → F2 R (l.drop n) (m.drop n)
  | _, _, 0, h => h
  | _, _, _ + 1, .nil => .nil
  | _, _, n + 1, .cons _ xs => f2_drop n xs
theorem f2_set {α β : Type} {R : α → β → Prop} {a : α} {b : β} (hab : R a b) : ∀ {l : List α} {m : List β} (n : Nat), F2 R l m → F2 R (l.set n a) (m.set n b)
  | _, _, _, .nil => .nil
  | _, _, 0, .cons _ xs => .cons hab xs
  | _, _, n + 1, .cons x xs => .cons x (f2_set hab n xs)
theorem f2_map {α β γ δ : Type} {R : α → β → Prop} {S : γ → δ → Prop} {f : α → γ} {g : β → δ} (hfg : ∀ a b, R a b → S (f a) (g b)) : ∀ {l : List α} {m : List β}, F2 R l m → F2 S (l.map f) (m.map g)
  | _, _, .nil => .nil
  | _, _, .cons x xs => .cons (hfg _ _ x) (f2_map hfg xs)
theorem f2_same {α β : Type} {R : α → β → Prop} {f : α → β} : ∀ {l : List α}, (∀ a ∈ l, R a (f a)) → F2 R l (l.map f)
  | [], _ => .nil
  | a :: l, h => .cons (h a (List.mem_cons_self ..)) (f2_same fun b hb => h b (List.mem_cons_of_mem _ hb))
theorem f2_getD {α β : Type} {R : α → β → Prop} {da : α} {db : β} (hd : R da db) {l : List α} {m : List β} (h : F2 R l m) (i : Nat) : R (l.getD i da) (m.getD i db) := by
  have hl := f2_length h
  rcases Nat.lt_or_ge i l.length with hi | hi
  · obtain ⟨b, h1, h2⟩ := f2_get h (List.getElem?_eq_getElem hi)
    simp only [List.getD, List.getElem?_eq_getElem hi, h1, Option.getD_some]
    exact h2
  · simp only [List.getD, List.getElem?_eq_none hi, List.getElem?_eq_none (show m.length ≤ i by omega), Option.getD_none]
    exact hd
theorem scalar_rel {env : Env} {N : Nat} {c : Cell} (h : c.scalar = true) : crel env N c c.val := by
  cases c <;> simp [Cell.scalar] at h <;> rfl
theorem scalar_val {env : Env} {N : Nat} {c : Cell} {v : Value} (h : c.scalar = true) (hr : crel env N c v) : v = c.val := by
  cases c <;> simp [Cell.scalar] at h <;> exact hr
theorem scalar_one {c : Cell} (h : c.scalar = true) : c.val.oneCell' = true := by
  cases c <;> simp [Cell.scalar] at h <;> rfl
theorem scalars_rel {env : Env} {N : Nat} {cs : List Cell} (h : cs.all Cell.scalar = true) : crels env N cs (cs.map Cell.val) :=
  f2_same fun c hc => scalar_rel (List.all_eq_true.1 h c hc)
theorem scalars_val {env : Env} {N : Nat} : ∀ {cs : List Cell} {vs : List Value}, cs.all Cell.scalar = true → crels env N cs vs → vs = cs.map Cell.val
  | _, _, _, .nil => rfl
  | _, _, h, .cons x xs => by
    simp only [List.all_cons, Bool.and_eq_true] at h
    rw [List.map_cons, scalar_val h.1 x, scalars_val h.2 xs]

/-! ### rows -/
section
variable {cod : Nat → Codec}
def vals (c : Codec) (l : List c.α) : List Value := (l.flatMap c.enc).map Cell.val
theorem flat_len (c : Codec) : ∀ l : List c.α, (l.flatMap c.enc).length = l.length * c.size
  | [] => by simp
  | a :: l => by rw [List.flatMap_cons, List.length_append, c.size_eq, flat_len c l, List.length_cons, Nat.add_mul]; omega
theorem vals_len (c : Codec) (l : List c.α) : (vals c l).length = l.length * c.size := by rw [vals, List.length_map, flat_len]
theorem flat_all (c : Codec) (l : List c.α) : (l.flatMap c.enc).all Cell.scalar = true := by
  rw [List.all_eq_true]
  intro x hx
  obtain ⟨a, _, ha⟩ := List.mem_flatMap.1 hx
  exact List.all_eq_true.1 (c.scal a) x ha
theorem flat_get (c : Codec) : ∀ (l : List c.α) (i j : Nat), i < l.length → j < c.size → (l.flatMap c.enc)[i * c.size + j]? = (c.enc (l.getD i c.d))[j]?
  | [], _, _, h, _ => by simp at h
  | a :: l, 0, j, _, hj => by
    rw [List.flatMap_cons, List.getElem?_append_left (by rw [c.size_eq]; omega)]
    simp
  | a :: l, i + 1, j, h, hj => by
    have e : (i + 1) * c.size + j = c.size + (i * c.size + j) := by rw [Nat.add_mul]; omega
    rw [List.flatMap_cons, List.getElem?_append_right (by rw [c.size_eq, e]; omega), c.size_eq, e, Nat.add_sub_cancel_left]
    have := flat_get c l i j (by simpa using h) hj
    simpa using this
theorem vals_get (c : Codec) (l : List c.α) (i j : Nat) (hi : i < l.length) (hj : j < c.size) : (vals c l)[i * c.size + j]? = ((c.enc (l.getD i c.d))[j]?).map Cell.val := by
  rw [vals, List.getElem?_map, flat_get c l i j hi hj]
theorem vals_append (c : Codec) (l m : List c.α) : vals c (l ++ m) = vals c l ++ vals c m := by
  simp [vals]
theorem vals_one (c : Codec) (l : List c.α) : ∀ v ∈ vals c l, v.oneCell' = true := by
  intro v hv
  obtain ⟨x, hx, rfl⟩ := List.mem_map.1 hv
  exact scalar_one (List.all_eq_true.1 (flat_all c l) x hx)
theorem vals_set (c : Codec) : ∀ (l : List c.α) (i : Nat) (a : c.α), i < l.length → vals c (l.set i a) = (vals c l).take (i * c.size) ++ ((c.enc a).map Cell.val ++ (vals c l).drop (i * c.size + c.size))
  | [], _, _, h => by simp at h
  | b :: l, 0, a, _ => by
    simp only [vals, List.set_cons_zero, List.flatMap_cons, List.map_append, Nat.zero_mul, List.take_zero, List.nil_append, Nat.zero_add]
    congr 1
    rw [List.drop_append, List.drop_of_length_le (by rw [List.length_map, c.size_eq]; exact Nat.le_refl _), List.nil_append, List.length_map, c.size_eq, Nat.sub_self, List.drop_zero]
  | b :: l, i + 1, a, h => by
    have ih := vals_set c l i a (by simpa using h)
    simp only [vals, List.set_cons_succ, List.flatMap_cons, List.map_append] at ih ⊢
    have hl : ((c.enc b).map Cell.val).length = c.size := by rw [List.length_map, c.size_eq]
    have e : (i + 1) * c.size = c.size + i * c.size := by rw [Nat.add_mul]; omega
    have t1 : ((c.enc b).map Cell.val).take (c.size + i * c.size) = (c.enc b).map Cell.val := List.take_of_length_le (by omega)
    have t2 : ((c.enc b).map Cell.val).drop (c.size + i * c.size + c.size) = [] := List.drop_of_length_le (by omega)
    rw [ih, e, List.take_append, List.drop_append, hl, t1, t2, List.nil_append, List.append_assoc, Nat.add_sub_cancel_left, show c.size + i * c.size + c.size - c.size = i * c.size + c.size from by omega]

theorem vals_drop (c : Codec) : ∀ (l : List c.α) (i : Nat), i < l.length → (vals c l).drop (i * c.size) = (c.enc (l.getD i c.d)).map Cell.val ++ (vals c l).drop (i * c.size + c.size)
  | [], i, h => by simp at h
  | b :: l, 0, _ => by
    have hl : ((c.enc b).map Cell.val).length = c.size := by rw [List.length_map, c.size_eq]
    simp only [vals, List.flatMap_cons, List.map_append, Nat.zero_mul, List.drop_zero, Nat.zero_add, List.getD_cons_zero]
    rw [List.drop_append, hl, Nat.sub_self, List.drop_zero, List.drop_of_length_le (by omega), List.nil_append]
  | b :: l, i + 1, h => by
    have ih := vals_drop c l i (by simpa using h)
    have hl : ((c.enc b).map Cell.val).length = c.size := by rw [List.length_map, c.size_eq]
    have e : (i + 1) * c.size = c.size + i * c.size := by rw [Nat.add_mul]; omega
    simp only [vals, List.flatMap_cons, List.map_append, List.getD_cons_succ] at ih ⊢
    have t1 : ((c.enc b).map Cell.val).drop (c.size + i * c.size) = [] := List.drop_of_length_le (by omega)
    have t2 : ((c.enc b).map Cell.val).drop (c.size + (i * c.size + c.size)) = [] := List.drop_of_length_le (by omega)
    rw [e, Nat.add_assoc, List.drop_append, List.drop_append, hl, t1, t2, List.nil_append, List.nil_append, Nat.add_sub_cancel_left, Nat.add_sub_cancel_left]
    exact ih
/-- One element overwritten in part. -/
theorem vals_splice (c : Codec) (l : List c.α) (i o : Nat) (xs : List Cell) (hi : i < l.length) (hle : o + xs.length ≤ c.size) (hok : c.ok (splice (c.enc (l.getD i c.d)) o xs) = true) :
    vals c (l.set i (c.dec (splice (c.enc (l.getD i c.d)) o xs))) = (vals c l).take (i * c.size + o) ++ xs.map Cell.val ++ (vals c l).drop (i * c.size + o + xs.length) := by
  have hd := vals_drop c l i hi
  have he : ((c.enc (l.getD i c.d)).map Cell.val).length = c.size := by rw [List.length_map, c.size_eq]
  have h1 : (vals c l).drop (i * c.size + o + xs.length) = ((c.enc (l.getD i c.d)).map Cell.val).drop (o + xs.length) ++ (vals c l).drop (i * c.size + c.size) := by
    rw [Nat.add_assoc, ← List.drop_drop, hd, List.drop_append, he, show o + xs.length - c.size = 0 by omega, List.drop_zero]
  have h2 : (vals c l).take (i * c.size + o) = (vals c l).take (i * c.size) ++ ((c.enc (l.getD i c.d)).map Cell.val).take o := by
    rw [List.take_add, hd, List.take_append, he, show o - c.size = 0 by omega, List.take_zero, List.append_nil]
  rw [vals_set c l i _ hi, c.ok_spec _ hok, h1, h2, splice]
  simp only [List.map_append, List.map_take, List.map_drop, List.append_assoc]

/-- The cells of an object read so. -/
def reads (w : World) (x : HV) (vs : List Value) : Prop := ∀ j u, vs[j]? = some u → w.cell? ⟨x.block, x.off + j, none⟩ = some u

/-- The call has written to blocks of its own only (M). -/
structure Kin (M : Nat → Prop) (w w' : World) : Prop where
  os : w'.os = w.os
  tape : w'.tape = w.tape
  output : w'.output = w.output
  size : w.heap.size ≤ w'.heap.size
  block : ∀ k, k < w.heap.size → ¬ M k → w'.heap[k]? = w.heap[k]?
  drawn : dl w ≤ dl w'
/-- The same where nothing that was there is written. -/
structure Blw (w w' : World) : Prop where
  below : Below w.heap.size w w'
  drawn : dl w ≤ dl w'
theorem Kin.refl (M : Nat → Prop) (w : World) : Kin M w w := ⟨rfl, rfl, rfl, Nat.le_refl _, fun _ _ _ => rfl, Nat.le_refl _⟩
theorem Kin.trans {M : Nat → Prop} {a b c : World} (h : Kin M a b) (k : Kin M b c) : Kin M a c :=
  ⟨k.os.trans h.os, k.tape.trans h.tape, k.output.trans h.output, Nat.le_trans h.size k.size, fun i hi hm => (k.block i (Nat.lt_of_lt_of_le hi h.size) hm).trans (h.block i hi hm), Nat.le_trans h.drawn k.drawn⟩
theorem Kin.mono {M M' : Nat → Prop} {w w' : World} (h : Kin M w w') (hM : ∀ k, k < w.heap.size → M k → M' k) : Kin M' w w' :=
  ⟨h.os, h.tape, h.output, h.size, fun k hk hm => h.block k hk fun hh => hm (hM k hk hh), h.drawn⟩
theorem Kin.drew {M : Nat → Prop} {a w : World} (h : Kin M a w) : Kin M a w.drew := ⟨h.os, h.tape, h.output, h.size, h.block, Nat.le_trans h.drawn (dl_mono (Nat.le_succ _))⟩
theorem Kin.alloc {M : Nat → Prop} {a w : World} (h : Kin M a w) (o : Obj) : Kin M a (w.alloc o) :=
  h.trans ⟨rfl, rfl, rfl, by simp, fun k hk _ => Below.heap_alloc _ _ _ hk, Nat.le_refl _⟩
theorem Kin.grown {M : Nat → Prop} {a w w' : World} {row : Option Nat} (h : Kin M a w) (hg : w.grownBy w' row) (hd : w.drawn ≤ w'.drawn) (hr : ∀ k, row = some k → M k) : Kin M a w' :=
  h.trans ⟨hg.os, hg.tape, hg.output, hg.size, fun k hk hm => hg.block k hk (fun e => hm (hr k e.symm)), dl_mono hd⟩
theorem Kin.of_below {M : Nat → Prop} {B : Nat} {w w' : World} (h : Below B w w') (hd : dl w ≤ dl w') (hB : ∀ k, k < w.heap.size → B ≤ k → M k) : Kin M w w' :=
  ⟨h.os, h.tape, h.output, h.size, fun k hk hm => h.block k (Nat.lt_of_not_le fun e => hm (hB k hk e)), hd⟩
theorem Kin.below {M : Nat → Prop} {w w' : World} (h : Kin M w w') (hM : ∀ k, k < w.heap.size → ¬ M k) : Blw w w' :=
  ⟨⟨h.os, h.tape, h.output, h.size, fun k hk => h.block k hk (hM k hk)⟩, h.drawn⟩

/-- A slice's value that reads as a row. -/
def rowAt (w : World) (c : Codec) (v : Value) (l : List c.α) : Prop :=
  ∃ A k, v = .slice A l.length k ∧ l.length ≤ k ∧ k ≤ maxLen ∧ (l ≠ [] → ∃ b o, A = some ⟨b, o, none⟩ ∧ b < w.heap.size ∧ ∀ j u, (vals c l)[j]? = some u → w.cell? ⟨b, o + j, none⟩ = some u)
/-- The type of the block of a slice of slices; beyond 1000000: an array of slices whose capacities are not known. -/
def tyO (ty : TypeId) : TypeId := if ty < 1000000 then ty else ty - 1000000
/-- A row's value in memory, and as it is kept here: the same, but for its capacity in an array. -/
def lk (ty : TypeId) (a b : Option Value) : Prop := a = b ∨ (¬ ty < 1000000 ∧ ∃ A n c c', a = some (.slice A n c) ∧ b = some (.slice A n c') ∧ n ≤ c ∧ c ≤ maxLen)
theorem lk_strict {ty : TypeId} (h : ty < 1000000) {a b : Option Value} (k : lk ty a b) : a = b := by
  rcases k with k | k
  · exact k
  · exact absurd h k.1
def objRel (env : Env) (N : Nat) (x : HV) (w : World) (M : Nat → Prop) : HObj cod → Prop
  | .blk cs ty => x.off = 0 ∧ M x.block ∧ ∃ vs : List Value, w.heap[x.block]? = some (.cells vs.toArray ty (0, 0)) ∧ crels env N cs vs
  | .rblk cs => x.off = 0 ∧ x.block < w.heap.size ∧ ∃ vs : List Value, reads w x vs ∧ crels env N cs vs
  | .pblk cs => x.off = 0 ∧ (x.block < w.heap.size ∧ M x.block) ∧ ∃ vs : List Value, reads w x vs ∧ crels env N cs vs
  | .arr t l ty => x.off = 0 ∧ x.esize = (cod t).size ∧ M x.block ∧ w.heap[x.block]? = some (.cells (vals (cod t) l).toArray ty (0, 0))
  | .own t l ty => x.off = 0 ∧ x.esize = (cod t).size ∧ w.ownsRow 0 ty (cod t).size x.val l.length (vals (cod t) l) ∧ (∀ b, x.val.ownBlock = some b → M b) ∧ (∀ A n c, x.val = .slice (some A) n c → A = ⟨x.block, 0, none⟩)
  | .inp t l => x.esize = (cod t).size ∧ reads w x (vals (cod t) l) ∧ (l ≠ [] → x.block < w.heap.size)
  | .nin t LL op => x.esize = 1 ∧ ∃ vs : List Value, x.rows = vs ∧ vs.length = LL.length ∧ reads w x vs ∧ (LL ≠ [] → x.block < w.heap.size) ∧ (∀ (i : Nat) (v : Value) (l : List (cod t).α), vs[i]? = some v → LL[i]? = some l → rowAt w (cod t) v l) ∧
      ∀ (p : Nat × Cell), op = some p → ∃ v, vs[p.1]? = some v ∧ crel env N p.2 v
  | .sarr pre t m l post ty => x.off = 0 ∧ x.esize = (cod t).size ∧ M x.block ∧ l.length = m ∧ (pre ++ post).all Cell.scalar = true ∧ w.heap[x.block]? = some (.cells (pre.map Cell.val ++ (vals (cod t) l ++ post.map Cell.val)).toArray ty (0, 0))
  | .nown t LL js cs ty tyr => x.off = 0 ∧ x.esize = 1 ∧ (x.rows.length = LL.length ∧ js.length = cs.length) ∧
      (∃ vs : List Value, w.ownsRow 0 (tyO ty) 1 x.val LL.length vs ∧ (∀ j, j ∉ js → lk ty vs[j]? x.rows[j]?) ∧ ∀ (q j : Nat) (c : Cell), js[q]? = some j → cs[q]? = some c → ∃ v, vs[j]? = some v ∧ crel env N c v) ∧
      (∀ b, x.val.ownBlock = some b → M b) ∧ (∀ A n c, x.val = .slice (some A) n c → A = ⟨x.block, 0, none⟩) ∧
      (∀ (j : Nat) (v : Value) (l : List (cod t).α), j ∉ js → x.rows[j]? = some v → LL[j]? = some l → w.ownsRow 0 tyr (cod t).size v l.length (vals (cod t) l) ∧ ∀ b, v.ownBlock = some b → M b ∧ x.val.ownBlock ≠ some b) ∧
      (∀ (j k : Nat) (v u : Value) (b : Nat), j ≠ k → j ∉ js → k ∉ js → x.rows[j]? = some v → x.rows[k]? = some u → v.ownBlock = some b → u.ownBlock ≠ some b)
  | .dead => True
/-- The blocks that an object takes. -/
def HObj.has (x : HV) (b : Nat) : HObj cod → Prop
  | .blk _ _ | .arr _ _ _ | .rblk _ | .pblk _ | .sarr _ _ _ _ _ _ => b = x.block
  | .own _ _ _ => x.val.ownBlock = some b
  | .inp _ l => l ≠ [] ∧ b = x.block
  | .nin _ LL _ => (LL ≠ [] ∧ b = x.block) ∨ ∃ vs : List Value, x.rows = vs ∧ ∃ v ∈ vs, ∃ o n k, v = .slice (some ⟨b, o, none⟩) n k ∧ 0 < n
  | .nown _ _ js _ _ _ => x.val.ownBlock = some b ∨ ∃ (j : Nat) (v : Value), x.rows[j]? = some v ∧ j ∉ js ∧ v.ownBlock = some b
  | .dead => False
/-- The tables are as they are, and are not written. -/
def TabW (w : World) (M : Nat → Prop) : Prop := ∀ p ∈ tabs, (∃ cs ty tg, w.heap[p.1]? = some (.cells cs ty tg) ∧ p.2 cs) ∧ ¬ M p.1
theorem TabW.lt {w : World} {M : Nat → Prop} (h : TabW w M) {p : Nat × (Array Value → Prop)} (hp : p ∈ tabs) : p.1 < w.heap.size := by
  obtain ⟨⟨_, ty, tg, h1, _⟩, _⟩ := h p hp
  exact (Array.getElem?_eq_some_iff.1 h1).1
theorem TabW.keep {w w' : World} {M M' : Nat → Prop} (h : TabW w M) (hk : ∀ p ∈ tabs, p.1 < w.heap.size → ¬ M p.1 → w'.heap[p.1]? = w.heap[p.1]?) (hM : ∀ p ∈ tabs, p.1 < w.heap.size → ¬ M p.1 → ¬ M' p.1) : TabW w' M' := fun p hp => by
  obtain ⟨⟨cs, ty, tg, h1, h3⟩, h2⟩ := h p hp
  exact ⟨⟨cs, ty, tg, (hk p hp (h.lt hp) h2).trans h1, h3⟩, hM p hp (h.lt hp) h2⟩
structure Good (env : Env) (H : Heap cod) (w : World) (M : Nat → Prop) : Prop where
  obj : ∀ (h : Nat) (o : HObj cod), H[h]? = some o → objRel env H.length (env h) w M o
  sep : ∀ (h h' : Nat) (o o' : HObj cod) (b : Nat), h ≠ h' → H[h]? = some o → H[h']? = some o' → o.wr = true → o.has (env h) b → ¬ o'.has (env h') b
  tab : TabW w M

theorem objRel_mono {env env' : Env} {N N' : Nat} {x : HV} {w : World} {M : Nat → Prop} {o : HObj cod} (hN : N ≤ N') (he : EnvEq N env env') (h : objRel env N x w M o) : objRel env' N' x w M o := by
  cases o <;> simp only [objRel] at h ⊢ <;> try exact h
  · obtain ⟨h1, h2, vs, h3, h4⟩ := h; exact ⟨h1, h2, vs, h3, crels_mono hN he h4⟩
  · obtain ⟨h1, h2, vs, h3, h4⟩ := h; exact ⟨h1, h2, vs, h3, crels_mono hN he h4⟩
  · obtain ⟨h1, h2, vs, h3, h4⟩ := h; exact ⟨h1, h2, vs, h3, crels_mono hN he h4⟩
  · obtain ⟨h1, vs, h2, h3, h4, h5, h6, h7⟩ := h
    exact ⟨h1, vs, h2, h3, h4, h5, h6, fun p hp => let ⟨v, hv, hc⟩ := h7 p hp; ⟨v, hv, crel_mono hN he hc⟩⟩
  · obtain ⟨h1, h2, h3, ⟨vs, h4, h5, h6⟩, h7⟩ := h
    exact ⟨h1, h2, h3, ⟨vs, h4, h5, fun q j c hj hc => let ⟨v, hv, hr⟩ := h6 q j c hj hc; ⟨v, hv, crel_mono hN he hr⟩⟩, h7⟩

theorem reads_keep {w w' : World} {x : HV} {vs : List Value} (h : reads w x vs) (hk : vs ≠ [] → w'.heap[x.block]? = w.heap[x.block]?) : reads w' x vs := fun j u hu => by
  have hne : vs ≠ [] := by rintro rfl; simp at hu
  exact (World.cell?_of_block (w := w) (w' := w') (a := ⟨x.block, x.off + j, none⟩) (hk hne)).trans (h j u hu)
theorem own_block_lt {w : World} {B : Nat} {e : TypeId} {size n : Nat} {v : Value} {xs : List Value} (h : w.ownsRow B e size v n xs) {b : Nat} (hb : v.ownBlock = some b) : B ≤ b ∧ b < w.heap.size := h.lt b hb
theorem ownsRow_keep {w w' : World} {B : Nat} {e : TypeId} {size n : Nat} {v : Value} {xs : List Value} (h : w.ownsRow B e size v n xs) (hk : ∀ b, v.ownBlock = some b → w'.heap[b]? = w.heap[b]?) : w'.ownsRow B e size v n xs := by
  refine ⟨h.1, ?_⟩
  rcases h.2 with hn | ⟨g, cap, cur, hv, hb, hg, rest⟩
  · exact .inl hn
  · exact .inr ⟨g, cap, cur, hv, hb, by rw [hk g (by simp [hv, Value.ownBlock])]; exact hg, rest⟩
/-- An object in a world where its blocks are as they were. -/
theorem objRel_keep {env : Env} {N : Nat} {x : HV} {w w' : World} {M : Nat → Prop} {o : HObj cod} (h : objRel env N x w M o) (hs : w.heap.size ≤ w'.heap.size) (hk : ∀ b, o.has x b → w'.heap[b]? = w.heap[b]?) : objRel env N x w' M o := by
  cases o with
  | blk cs ty => obtain ⟨h1, h2, vs, h3, h4⟩ := h; exact ⟨h1, h2, vs, (hk _ rfl).trans h3, h4⟩
  | rblk cs => obtain ⟨h1, h2, vs, h3, h4⟩ := h; exact ⟨h1, by omega, vs, reads_keep h3 (fun _ => hk _ rfl), h4⟩
  | pblk cs => obtain ⟨h1, ⟨h2, h5⟩, vs, h3, h4⟩ := h; exact ⟨h1, ⟨by omega, h5⟩, vs, reads_keep h3 (fun _ => hk _ rfl), h4⟩
  | arr t l ty => obtain ⟨h1, h2, h3, h4⟩ := h; exact ⟨h1, h2, h3, (hk _ rfl).trans h4⟩
  | sarr pre t m l post ty => obtain ⟨h1, h2, h3, h5, h6, h4⟩ := h; exact ⟨h1, h2, h3, h5, h6, (hk _ rfl).trans h4⟩
  | own t l ty =>
    obtain ⟨h1, h2, h3, h4, h5⟩ := h
    refine ⟨h1, h2, ?_, h4, h5⟩
    refine ⟨h3.1, ?_⟩
    rcases h3.2 with hn | ⟨g, cap, cur, hv, hb, hg, rest⟩
    · exact .inl hn
    · exact .inr ⟨g, cap, cur, hv, hb, by rw [hk g (by simp [HObj.has, hv, Value.ownBlock])]; exact hg, rest⟩
  | inp t l =>
    obtain ⟨h1, h2, h3⟩ := h
    refine ⟨h1, reads_keep h2 (fun hne => hk _ ⟨?_, rfl⟩), fun hl => by have := h3 hl; omega⟩
    rintro rfl
    exact hne rfl
  | nin t LL op =>
    obtain ⟨h1, vs, h2, h3, h4, h5, h6, h7⟩ := h
    refine ⟨h1, vs, h2, h3, reads_keep h4 (fun hne => hk _ (.inl ⟨?_, rfl⟩)), fun hl => by have := h5 hl; omega, fun i v l hv hl => ?_, h7⟩
    · rintro rfl
      exact hne (List.eq_nil_of_length_eq_zero h3)
    · obtain ⟨A, c, e1, e2, e3, e4⟩ := h6 i v l hv hl
      refine ⟨A, c, e1, e2, e3, fun hne => ?_⟩
      obtain ⟨b, o, g1, g2, g3⟩ := e4 hne
      refine ⟨b, o, g1, by omega, fun j u hu => ?_⟩
      refine (World.cell?_of_block (w := w) (w' := w') (a := ⟨b, o + j, none⟩) (hk b (.inr ⟨vs, h2, v, List.mem_of_getElem? hv, o, l.length, c, by rw [e1, g1], ?_⟩))).trans (g3 j u hu)
      exact List.length_pos_iff.2 hne
  | nown t LL js cs ty tyr =>
    obtain ⟨h1, h2, h3, ⟨vs, h4, h5, h6⟩, h7, h8, h9, h10⟩ := h
    exact ⟨h1, h2, h3, ⟨vs, ownsRow_keep h4 fun b hb => hk b (.inl hb), h5, h6⟩, h7, h8, fun j v l hj hv hl => ⟨ownsRow_keep (h9 j v l hj hv hl).1 fun b hb => hk b (.inr ⟨j, v, hv, hj, hb⟩), (h9 j v l hj hv hl).2⟩, h10⟩
  | dead => trivial
theorem objRel_has_lt {env : Env} {N : Nat} {x : HV} {w : World} {M : Nat → Prop} {o : HObj cod} (h : objRel env N x w M o) {b : Nat} (hb : o.has x b) : b < w.heap.size := by
  have lt : ∀ {k : Nat} {ob : Obj}, w.heap[k]? = some ob → k < w.heap.size := fun h => (Array.getElem?_eq_some_iff.1 h).1
  cases o with
  | blk cs ty => obtain ⟨h1, h2, vs, h3, h4⟩ := h; simp only [HObj.has] at hb; subst hb; exact lt h3
  | rblk cs => obtain ⟨h1, h2, _⟩ := h; simp only [HObj.has] at hb; subst hb; exact h2
  | pblk cs => obtain ⟨h1, h2, _⟩ := h; simp only [HObj.has] at hb; subst hb; exact h2.1
  | arr t l ty => obtain ⟨h1, h2, h3, h4⟩ := h; simp only [HObj.has] at hb; subst hb; exact lt h4
  | sarr pre t m l post ty => obtain ⟨h1, h2, h3, h5, h6, h4⟩ := h; simp only [HObj.has] at hb; subst hb; exact lt h4
  | own t l ty => obtain ⟨h1, h2, h3, h4, h5⟩ := h; exact (own_block_lt h3 hb).2
  | inp t l =>
    obtain ⟨h1, h2, h3⟩ := h
    simp only [HObj.has] at hb
    rw [hb.2]
    exact h3 hb.1
  | nin t LL op =>
    obtain ⟨h1, vs, h2, h3, h4, h5, h6, h7⟩ := h
    rcases hb with ⟨q1, q2⟩ | ⟨vs', e, v, hv, o, n, k, hs, hn⟩
    · rw [q2]
      exact h5 q1
    · have e' : vs = vs' := h2.symm.trans e
      subst e'
      obtain ⟨i, hi, hiv⟩ := List.getElem_of_mem hv
      have hv' : vs[i]? = some v := by rw [List.getElem?_eq_getElem hi, hiv]
      obtain ⟨A, c, e1, e2, e3, e4⟩ := h6 i v (LL[i]'(by omega)) hv' (List.getElem?_eq_getElem (by omega))
      rw [hs] at e1
      simp only [Value.slice.injEq] at e1
      obtain ⟨e1, en, _⟩ := e1
      obtain ⟨b', o', g1, g2, _⟩ := e4 (List.length_pos_iff.1 (by omega))
      rw [← e1] at g1
      simp only [Option.some.injEq, Addr.mk.injEq] at g1
      rw [g1.1]
      exact g2
  | nown t LL js cs ty tyr =>
    obtain ⟨h1, h2, h3, ⟨vs, h4, h5, h6⟩, h7, h8, h9, h10⟩ := h
    rcases hb with hb | ⟨j, v, hv, hj, hb⟩
    · exact (own_block_lt h4 hb).2
    · have hlt := (List.getElem?_eq_some_iff.1 hv).1
      have h3 := h3.1
      exact (own_block_lt (h9 j v (LL[j]'(by omega)) hj hv (List.getElem?_eq_getElem (by omega))).1 hb).2
  | dead => exact hb.elim
theorem objRel_wr_in {env : Env} {N : Nat} {x : HV} {w : World} {M : Nat → Prop} {o : HObj cod} (h : objRel env N x w M o) (hw : o.wr = true) {b : Nat} (hb : o.has x b) : M b := by
  cases o with
  | blk cs ty => simp only [HObj.has] at hb; subst hb; exact h.2.1
  | pblk cs => simp only [HObj.has] at hb; subst hb; exact h.2.1.2
  | arr t l ty => simp only [HObj.has] at hb; subst hb; exact h.2.2.1
  | sarr pre t m l post ty => simp only [HObj.has] at hb; subst hb; exact h.2.2.1
  | own t l ty => exact h.2.2.2.1 b hb
  | nown t LL js cs ty tyr =>
    obtain ⟨h1, h2, h3, ⟨vs, h4, h5, h6⟩, h7, h8, h9, h10⟩ := h
    rcases hb with hb | ⟨j, v, hv, hj, hb⟩
    · exact h7 b hb
    · have hlt := (List.getElem?_eq_some_iff.1 hv).1
      have h3 := h3.1
      exact ((h9 j v (LL[j]'(by omega)) hj hv (List.getElem?_eq_getElem (by omega))).2 b hb).1
  | _ => simp [HObj.wr] at hw

theorem Good.keep {env : Env} {H : Heap cod} {w w' : World} {M : Nat → Prop} (G : Good env H w M) (hs : w.heap.size ≤ w'.heap.size) (hk : ∀ k, k < w.heap.size → w'.heap[k]? = w.heap[k]?) : Good env H w' M :=
  ⟨fun h o ho => objRel_keep (G.obj h o ho) hs fun b hb => hk b (objRel_has_lt (G.obj h o ho) hb), G.sep, G.tab.keep (fun p _ hl _ => hk _ hl) fun _ _ _ h => h⟩
theorem Good.below {env : Env} {H : Heap cod} {w w' : World} {M : Nat → Prop} {C : Nat} (G : Good env H w M) (hb : Below C w w') (hC : w.heap.size ≤ C) : Good env H w' M :=
  G.keep hb.size fun k hk => hb.block k (by omega)

/-- The environment with one object more. -/
def Env.set (env : Env) (h : Nat) (x : HV) : Env := fun k => if k = h then x else env k
theorem Env.set_eq (env : Env) (N : Nat) (x : HV) : EnvEq N env (env.set N x) := fun h hh => by unfold Env.set; rw [if_neg (by omega)]
theorem Env.set_same (env : Env) (h : Nat) (x : HV) : env.set h x h = x := by simp [Env.set]
theorem Env.set_other (env : Env) {h k : Nat} (x : HV) (hk : k ≠ h) : env.set h x k = env k := by simp [Env.set, hk]

/-- One object more, in a block that was not there. -/
theorem Good.push {env : Env} {H : Heap cod} {w w' : World} {M : Nat → Prop} (G : Good env H w M) (x : HV) (o : HObj cod) (hs : w.heap.size ≤ w'.heap.size) (hk : ∀ k, k < w.heap.size → w'.heap[k]? = w.heap[k]?)
    (ho : objRel (env.set H.length x) (H.length + 1) x w' M o) (hnew : ∀ b, o.has x b → w.heap.size ≤ b) : Good (env.set H.length x) (H ++ [o]) w' M := by
  have G' := G.keep hs hk
  have cases_ : ∀ h a, (H ++ [o])[h]? = some a → (h < H.length ∧ H[h]? = some a) ∨ (h = H.length ∧ a = o) := by
    intro h a ha
    rcases Nat.lt_or_ge h H.length with hl | hl
    · rw [List.getElem?_append_left hl] at ha; exact .inl ⟨hl, ha⟩
    · rw [List.getElem?_append_right hl] at ha
      have : h - H.length = 0 := by
        rcases Nat.eq_zero_or_pos (h - H.length) with e | e
        · exact e
        · rw [List.getElem?_eq_none (by simp; omega)] at ha; cases ha
      rw [this] at ha
      simp at ha
      exact .inr ⟨by omega, ha.symm⟩
  refine ⟨fun h a ha => ?_, fun h h' a a' b hne ha ha' hw hb hb' => ?_, G'.tab⟩
  · rw [List.length_append, List.length_singleton]
    rcases cases_ h a ha with ⟨hl, h1⟩ | ⟨rfl, rfl⟩
    · rw [Env.set_other _ _ (by omega)]
      exact objRel_mono (by omega) (Env.set_eq env _ x) (G'.obj h a h1)
    · rw [Env.set_same]; exact ho
  · rcases cases_ h a ha with ⟨hl, h1⟩ | ⟨rfl, rfl⟩ <;> rcases cases_ h' a' ha' with ⟨hl', h1'⟩ | ⟨rfl, rfl⟩
    · rw [Env.set_other _ _ (by omega)] at hb hb'
      exact G.sep h h' a a' b hne h1 h1' hw hb hb'
    · rw [Env.set_other _ _ (by omega)] at hb
      rw [Env.set_same] at hb'
      have := objRel_has_lt (G.obj h a h1) hb
      have := hnew b hb'
      omega
    · rw [Env.set_same] at hb
      rw [Env.set_other _ _ (by omega)] at hb'
      have := objRel_has_lt (G.obj h' a' h1') hb'
      have := hnew b hb
      omega
    · exact hne rfl
/-- An object written in its own block. -/
theorem Good.write {env : Env} {H : Heap cod} {w w' : World} {M : Nat → Prop} {h : Nat} {o o' : HObj cod} (G : Good env H w M) (ho : H[h]? = some o) (hw : o.wr = true) {b : Nat} (hb : o.has (env h) b) (hs : w.heap.size ≤ w'.heap.size)
    (hk : ∀ k, k ≠ b → w'.heap[k]? = w.heap[k]?) (ho' : objRel env H.length (env h) w' M o') (hu : ∀ c, o'.has (env h) c → o.has (env h) c) : Good env (H.set h o') w' M := by
  have hlt : h < H.length := (List.getElem?_eq_some_iff.1 ho).1
  have cases_ : ∀ k a, (H.set h o')[k]? = some a → (k ≠ h ∧ H[k]? = some a) ∨ (k = h ∧ a = o') := by
    intro k a ha
    by_cases e : k = h
    · subst e
      rw [List.getElem?_set_self hlt] at ha
      simp at ha
      exact .inr ⟨rfl, ha.symm⟩
    · rw [List.getElem?_set_ne (by omega)] at ha; exact .inl ⟨e, ha⟩
  refine ⟨fun k a ha => ?_, fun k k' a a' c hne ha ha' hwa hc hc' => ?_, G.tab.keep (fun p _ _ hn => hk _ fun e => hn (by rw [e]; exact objRel_wr_in (G.obj h o ho) hw hb)) fun _ _ _ h => h⟩
  · rw [List.length_set]
    rcases cases_ k a ha with ⟨hne, h1⟩ | ⟨rfl, rfl⟩
    · exact objRel_keep (G.obj k a h1) hs fun c hc => hk c fun e => by subst e; exact G.sep h k o a c (Ne.symm hne) ho h1 hw hb hc
    · exact ho'
  · rcases cases_ k a ha with ⟨h1, h2⟩ | ⟨rfl, rfl⟩ <;> rcases cases_ k' a' ha' with ⟨h1', h2'⟩ | ⟨rfl, rfl⟩
    · exact G.sep k k' a a' c hne h2 h2' hwa hc hc'
    · exact G.sep k k' a o c hne h2 ho hwa hc (hu c hc')
    · exact G.sep k k' o a' c hne ho h2' hw (hu c hc) hc'
    · exact hne rfl
end
end Go.Proofs.YtiolfkmkbccndaaGreatDoor.Sym
