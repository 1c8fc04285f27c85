/- Small helps for summaries: lists of summaries, reading arguments, trees with tests. -/
import Derived.Test.YtoflfgcdagoobaaDoorSym19
namespace Go.Proofs.YtoflfgcdagoobaaDoor.Sym
open Go.RowKit

section
variable {cod : Nat → Codec} {P : Program}
/-- A function's summary: p where it only reads what it is handed, i where it may write to it, k where it does and lets own rows stay where they are. -/
inductive SE (cod : Nat → Codec) where
  | p (s : Summ cod)
  | i (s : Summ cod)
  | k (s : Summ cod)
abbrev Sums (cod : Nat → Codec) := List (FuncId × SE cod)
def lookS (L : Sums cod) (g : FuncId) : Option (Summ cod) :=
  match L with
  | [] => none
  | (f, e) :: l => if g = f then (match e with
    | .p s => some s
    | _ => none) else lookS l g
def lookI (L : Sums cod) (g : FuncId) : Option (Bool × Summ cod) :=
  match L with
  | [] => none
  | (f, e) :: l => if g = f then (match e with
    | .p _ => none
    | .i s => some (false, s)
    | .k s => some (true, s)) else lookI l g
def Snd (P : Program) (cod : Nat → Codec) (L : Sums cod) : Prop := (∀ g s, lookS L g = some s → Sound P cod g s) ∧ (∀ g s, lookI L g = some s → SoundIK P cod g s.1 s.2) ∧ ∀ _ : Nat, (none : Option Nat) = none
theorem Snd.nil : Snd P cod [] := ⟨(fun _ _ h => by cases h), (fun _ _ h => by cases h), fun _ => rfl⟩
theorem Snd.cons {f : FuncId} {s : Summ cod} {L : Sums cod} (h : Sound P cod f s) (hl : Snd P cod L) : Snd P cod ((f, .p s) :: L) := by
  refine ⟨fun g s' hg => ?_, fun g s' hg => ?_, fun _ => rfl⟩
  · simp only [lookS] at hg
    split at hg
    · rename_i e
      cases hg
      rw [e]
      exact h
    · exact hl.1 g s' hg
  · simp only [lookI] at hg
    split at hg
    · cases hg
    · exact hl.2.1 g s' hg
theorem Snd.consI {f : FuncId} {s : Summ cod} {L : Sums cod} (h : SoundI P cod f s) (hl : Snd P cod L) : Snd P cod ((f, .i s) :: L) := by
  refine ⟨fun g s' hg => ?_, fun g s' hg => ?_, fun _ => rfl⟩
  · simp only [lookS] at hg
    split at hg
    · cases hg
    · exact hl.1 g s' hg
  · simp only [lookI] at hg
    split at hg
    · rename_i e
      cases hg
      rw [e]
      exact h
    · exact hl.2.1 g s' hg

theorem Snd.consK {f : FuncId} {s : Summ cod} {L : Sums cod} (h : SoundIK P cod f true s) (hl : Snd P cod L) : Snd P cod ((f, .k s) :: L) := by
  refine ⟨fun g s' hg => ?_, fun g s' hg => ?_, fun _ => rfl⟩
  · simp only [lookS] at hg
    split at hg
    · cases hg
    · exact hl.1 g s' hg
  · simp only [lookI] at hg
    split at hg
    · rename_i e
      cases hg
      rw [e]
      exact h
    · exact hl.2.1 g s' hg

theorem T.wp_cond {α : Type} {b : Bool} {x y : T α} {Q : α → Prop} : (cond b x y).wp Q ↔ (if b = true then x.wp Q else y.wp Q) := by
  cases b <;> simp
theorem T.wp_ret {α : Type} {a : α} {Q : α → Prop} : (T.ret a).wp Q ↔ Q a := Iff.rfl
theorem T.wp_need {α : Type} {p : Prop} {t : T α} {Q : α → Prop} : (T.need p t).wp Q ↔ p ∧ t.wp Q := Iff.rfl
theorem T.wp_ite {α : Type} {c : Bool} {x y : T α} {Q : α → Prop} : (T.ite c x y).wp Q ↔ ((c = true → x.wp Q) ∧ (c = false → y.wp Q)) := Iff.rfl
theorem T.wp_fail {α : Type} {Q : α → Prop} : (T.fail : T α).wp Q ↔ False := Iff.rfl

/-- A function without loops. -/
theorem sound_flat {cfg : Cfg cod} (hS : CfgFit cfg) (hm : cfg.P.follows .mixedOrders = true) {f : FuncId} {fn : Func} (hf : cfg.P.funcs[f]? = some fn) (hb : fn.body.isSome = true) (hname : (fn.name == "runtime.NumGoroutine") = false) (s : Summ cod) (g : Nat)
    (h : ∀ (args : List SV) (H : Heap cod) (r : SV) (news : Heap cod), (s args H).gives (r, news) → (symF cfg [] fn.results.toList H.length g [.code (codeOf fn)] ⟨argsS fn args, H⟩).wp (fun x => x = .fin r news)) : Sound cfg.P cod f s :=
  tree_sound hf hb hname s fun args H r news hg b0 hn => Runs.of_symF hS hm g (cuts := []) rfl (T.wp_mono (Q := fun x => x = .fin r news) (fun x (hx : x = .fin r news) => by subst hx; exact ⟨rfl, rfl⟩) (by rw [hn]; exact h args H r news hg))
/-- A function with loops: at each cut the run goes on. -/
theorem sound_loop {cfg : Cfg cod} (hS : CfgFit cfg) (hm : cfg.P.follows .mixedOrders = true) {f : FuncId} {fn : Func} (hf : cfg.P.funcs[f]? = some fn) (hb : fn.body.isSome = true) (hname : (fn.name == "runtime.NumGoroutine") = false) (cuts : Cuts) (s : Summ cod) (g : Nat)
    (h : ∀ (args : List SV) (H : Heap cod) (r : SV) (news : Heap cod), (s args H).gives (r, news) → ∀ b0 : Base, b0.n = H.length → (symF cfg cuts fn.results.toList H.length g [.code (codeOf fn)] ⟨argsS fn args, H⟩).wp (Aft cfg.P b0 (Ends cfg.P fn H.length r news) r news)) : Sound cfg.P cod f s :=
  tree_sound hf hb hname s fun args H r news hg b0 hn => by
    have := Runs.of_symF hS hm (fn := fn) (r := r) (news := news) (b0 := b0) (cuts := cuts) g rfl (by rw [hn]; exact h args H r news hg b0 hn)
    exact this

/-- A function without loops that may write to what it is handed. -/
theorem sound_flatI {cfg : Cfg cod} (hS : CfgFit cfg) (hm : cfg.P.follows .mixedOrders = true) {f : FuncId} {fn : Func} (hf : cfg.P.funcs[f]? = some fn) (hb : fn.body.isSome = true) (hname : (fn.name == "runtime.NumGoroutine") = false) (s : Summ cod) (g : Nat)
    (h : ∀ (args : List SV) (H : Heap cod) (r : SV) (H' : Heap cod), (s args H).gives (r, H') → (symI cfg [] fn.results.toList H g [.code (codeOf fn)] ⟨argsS fn args, H⟩).wp (fun x => x = .fin r H')) : SoundI cfg.P cod f s :=
  tree_soundI hf hb hname s fun args H r H' hg b0 hn => Runs.of_symI hS hm hn g (cuts := []) rfl (T.wp_mono (Q := fun x => x = .fin r H') (fun x (hx : x = .fin r H') => by subst hx; exact ⟨rfl, rfl⟩) (h args H r H' hg))

/-- Temporaries: the known ones, each after so many that are not. -/
def tmG (n : Nat) : List (Nat × SV) → List SV
  | [] => List.replicate n (.c .junk)
  | (g, v) :: l => List.replicate g (.c .junk) ++ v :: tmG n l
/-! ### arguments -/
def rdI : List Cell → Option (List Int)
  | [] => some []
  | .int .i64 n :: l => match rdI l with
    | some r => some (n :: r)
    | none => none
  | _ => none
def ints (l : List Int) : List Cell := l.map (.int .i64)
theorem rdI_spec : ∀ {cs : List Cell} {l : List Int}, rdI cs = some l → cs = ints l
  | [], l, h => by
    simp only [rdI, Option.some.injEq] at h
    subst h
    rfl
  | x :: cs, l, h => by
    unfold rdI at h
    split at h
    · rename_i heq
      cases heq
    · rename_i n l' heq
      cases heq
      split at h
      · rename_i r hr
        cases h
        rw [rdI_spec hr]
        rfl
      · cases h
    · cases h
def rd1 : SV → Option (List Int)
  | .c (.int .i64 n) => some [n]
  | .agg (x :: cs) => match rdI (x :: cs) with
    | some l => some (0 :: l)
    | none => none
  | _ => none
/-- All arguments are ints or structs of ints: [n] for an int, 0 :: fields for a struct. -/
def rd : List SV → Option (List (List Int))
  | [] => some []
  | v :: l => match rd1 v with
    | none => none
    | some x => match rd l with
      | none => none
      | some r => some (x :: r)
def wr1 : List Int → SV
  | [n] => .c (.int .i64 n)
  | l => .agg (ints l.tail)
theorem rd1_spec {v : SV} {l : List Int} (h : rd1 v = some l) : v = wr1 l := by
  unfold rd1 at h
  split at h
  · cases h
    rfl
  · rename_i x cs
    split at h
    · rename_i l hr
      cases h
      rw [rdI_spec hr]
      cases l with
      | nil => cases rdI_spec hr
      | cons y l => rfl
    · cases h
  · cases h
theorem rd_spec : ∀ {args : List SV} {l : List (List Int)}, rd args = some l → args = l.map wr1
  | [], l, h => by
    cases h
    rfl
  | v :: a, l, h => by
    simp only [rd] at h
    split at h
    · cases h
    · rename_i y hy
      split at h
      · cases h
      · rename_i r hr
        cases h
        rw [rd1_spec hy, rd_spec hr]
        rfl
end
end Go.Proofs.YtoflfgcdagoobaaDoor.Sym
