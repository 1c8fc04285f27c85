/- Parts of the proof, one behind the other: Pa, Sym24. -/
import Derived.Test.YtbdhppceihcbnaaBd23
import Derived.Test.YtbdhppceihcbnaaBd24
import Derived.Test.YtbdhppceihcbnaaRows
section
namespace Go.Proofs.Ytbdhppceihcbnaa
open Sym Go.RowKit
noncomputable section
def intC : Codec where
  α := Int
  enc := fun x => [.int .i64 x]
  dec := fun l => match l with | [.int _ a0] => a0 | _ => 0
  ok := fun l => match l with | [.int .i64 _] => true | _ => false
  size := 1
  d := 0
  size_eq := fun _ => rfl
  scal := fun _ => rfl
  ok_spec := fun e h => by
    split at h
    · rfl
    · cases h
  pos := Nat.zero_lt_succ _
def c2 : Codec where
  α := Int × Int
  enc := fun x => [.int .i64 x.1, .int .i64 x.2]
  dec := fun l => match l with | [.int _ a0, .int _ a1] => (a0, a1) | _ => (0, 0)
  ok := fun l => match l with | [.int .i64 _, .int .i64 _] => true | _ => false
  size := 2
  d := (0, 0)
  size_eq := fun _ => rfl
  scal := fun _ => rfl
  ok_spec := fun e h => by
    split at h
    · rfl
    · cases h
  pos := Nat.zero_lt_succ _
def boolC : Codec where
  α := Bool
  enc := fun x => [.bool x]
  dec := fun l => match l with | [.bool a0] => a0 | _ => false
  ok := fun l => match l with | [.bool _] => true | _ => false
  size := 1
  d := false
  size_eq := fun _ => rfl
  scal := fun _ => rfl
  ok_spec := fun e h => by
    split at h
    · rfl
    · cases h
  pos := Nat.zero_lt_succ _
def strC : Codec where
  α := List UInt8
  enc := fun x => [.str x]
  dec := fun l => match l with | [.str a0] => a0 | _ => []
  ok := fun l => match l with | [.str _] => true | _ => false
  size := 1
  d := []
  size_eq := fun _ => rfl
  scal := fun _ => rfl
  ok_spec := fun e h => by
    split at h
    · rfl
    · cases h
  pos := Nat.zero_lt_succ _
def u8C : Codec where
  α := Int
  enc := fun x => [.int .u8 x]
  dec := fun l => match l with | [.int _ a0] => a0 | _ => 0
  ok := fun l => match l with | [.int .u8 _] => true | _ => false
  size := 1
  d := 0
  size_eq := fun _ => rfl
  scal := fun _ => rfl
  ok_spec := fun e h => by
    split at h
    · rfl
    · cases h
  pos := Nat.zero_lt_succ _
noncomputable def cod : Nat → Codec
  | 0 => intC
  | 1 => c2
  | 3 => boolC
  | 5 => strC
  | 9 => u8C
  | _ => intC
def ctags : List (TypeId × Nat) := [(3, 0), (49, 0), (37, 1), (23, 1), (9, 5), (5, 9)]
def ctg (t : TypeId) : Option Nat := (ctags.find? fun p => p.1 == t).map (·.2)
def loud : List FuncId := [11, 4, 10]
set_option maxRecDepth 100000
set_option maxHeartbeats 4000000
noncomputable def mkC (L : Sums cod) : Cfg cod := { P := Try.prog, ctag := ctg, summ := lookS L, summI := lookI L, quiet := fun g => !loud.contains g, wrap := false }
noncomputable def mkW (L : Sums cod) : Cfg cod := { P := Try.prog, ctag := ctg, summ := lookS L, summI := lookI L, quiet := fun g => !loud.contains g, wrap := true }
noncomputable def L_0 : Sums cod := []
noncomputable def C_0 : Cfg cod := mkC L_0


theorem L_0_ok : Snd Try.prog cod L_0 := .nil
theorem mixed : Try.prog.follows .mixedOrders = true := by kernel_rfl

namespace F
def inb (n lo hi : Int) : Bool := decide (lo ≤ n) && decide (n ≤ hi)
def abs (n : Int) : Int := if n < 0 then -n else n
def pt (x y : Int) : Int := if inb x (-1000000) 1000000 && inb y (-1000000) 1000000 then 0 else 4
def placed (x y : Int) : Bool := inb x (-1000000) 1000000 && inb y (-1000000) 1000000
def z (e x : Int) : Int := if e = 0 then x else 0
def far (x y : Int) : Bool := decide (x < -2000) || (decide (2000 < x) || (decide (y < -2000) || decide (2000 < y)))
end F

noncomputable def s_in : Summ cod := fun args H => match H with
  | [] => match rd args with
    | some [[n], [lo], [hi]] => (.ret (.c (.bool (F.inb n lo hi)), []))
    | _ => .fail
  | _ => .fail

theorem in_tree (n lo hi : Int) : symF C_0 [] Try.f14.results.toList (List.length ([] : Heap cod)) 400 [.code (codeOf Try.f14)] ⟨argsS Try.f14 [.c (.int .i64 n), .c (.int .i64 lo), .c (.int .i64 hi)], []⟩ =
 cond (decide (lo ≤ n)) (
 .ret (.fin (.c (.bool (decide (n ≤ hi)))) [])) (
 .ret (.fin (.c (.bool false)) [])) := by kernel_rfl

theorem in_sound : Sound Try.prog cod 14 s_in := sound_flat (cfg := C_0) L_0_ok mixed Try.func14 rfl rfl _ 400 fun args H r news hg => by
  unfold s_in at hg
  split at hg
  · split at hg
    · rename_i n lo hi hrd
      have hargs := rd_spec hrd
      simp only [List.map, wr1, ints, List.tail] at hargs
      subst hargs
      clear hrd
      rw [in_tree]
      try simp only [T.gives, T.wp, Prod.mk.injEq] at hg
      obtain ⟨rfl, rfl⟩ := hg
      simp only [T.wp, T.wp_cond, Fin.fin.injEq, SV.c.injEq, Cell.bool.injEq, Cell.int.injEq, and_true, true_and, decide_eq_true_eq, F.inb]
      (repeat' split) <;> simp_all <;> omega
    · exact hg.elim
  · exact hg.elim

noncomputable def L_in : Sums cod := (14, .p s_in) :: L_0
noncomputable def C_in : Cfg cod := mkC L_in

theorem L_in_ok : Snd Try.prog cod L_in := .cons in_sound L_0_ok

noncomputable def s_abs : Summ cod := fun args H => match H with
  | [] => match rd args with
    | some [[n]] => (.need (i64ok (-n)) (.ret (.c (.int .i64 (F.abs n)), [])))
    | _ => .fail
  | _ => .fail

theorem abs_tree (n : Int) : symF C_in [] Try.f24.results.toList (List.length ([] : Heap cod)) 400 [.code (codeOf Try.f24)] ⟨argsS Try.f24 [.c (.int .i64 n)], []⟩ =
 cond (decide (n < 0)) (
 .need (i64ok (-n)) (
 .ret (.fin (.c (.int .i64 (-n))) []))) (
 .ret (.fin (.c (.int .i64 n)) [])) := by kernel_rfl

theorem abs_sound : Sound Try.prog cod 24 s_abs := sound_flat (cfg := C_in) L_in_ok mixed Try.func24 rfl rfl _ 400 fun args H r news hg => by
  unfold s_abs at hg
  split at hg
  · split at hg
    · rename_i n hrd
      have hargs := rd_spec hrd
      simp only [List.map, wr1, ints, List.tail] at hargs
      subst hargs
      clear hrd
      rw [abs_tree]
      simp only [T.gives, T.wp, Prod.mk.injEq] at hg
      obtain ⟨h1, rfl, rfl⟩ := hg
      simp only [T.wp, T.wp_cond, Fin.fin.injEq, SV.c.injEq, SV.tup.injEq, SV.agg.injEq, List.cons.injEq, Cell.bool.injEq, Cell.int.injEq, and_true, true_and, decide_eq_true_eq]
      unfold F.abs
      by_cases h : n < 0 <;> simp [h, h1]
    · exact hg.elim
  · exact hg.elim

noncomputable def L_abs : Sums cod := (24, .p s_abs) :: L_in
noncomputable def C_abs : Cfg cod := mkC L_abs

theorem L_abs_ok : Snd Try.prog cod L_abs := .cons abs_sound L_in_ok

noncomputable def s_far : Summ cod := fun args H => match H with
  | [] => match rd args with
    | some [[_, x, y]] => (.ret (.c (.bool (F.far x y)), []))
    | _ => .fail
  | _ => .fail

theorem far_tree (x y : Int) : symF C_abs [] Try.f21.results.toList (List.length ([] : Heap cod)) 400 [.code (codeOf Try.f21)] ⟨argsS Try.f21 [.agg [.int .i64 x, .int .i64 y]], []⟩ =
 cond (decide (x < -2000)) (
 .ret (.fin (.c (.bool true)) [])) (
 cond (decide (2000 < x)) (
  .ret (.fin (.c (.bool true)) [])) (
  cond (decide (y < -2000)) (
   .ret (.fin (.c (.bool true)) [])) (
   .ret (.fin (.c (.bool (decide (2000 < y)))) [])))) := by kernel_rfl

theorem far_sound : Sound Try.prog cod 21 s_far := sound_flat (cfg := C_abs) L_abs_ok mixed Try.func21 rfl rfl _ 400 fun args H r news hg => by
  unfold s_far at hg
  split at hg
  · split at hg
    · rename_i _ x y hrd
      have hargs := rd_spec hrd
      simp only [List.map, wr1, ints, List.tail] at hargs
      subst hargs
      clear hrd
      rw [far_tree]
      simp only [T.gives, T.wp, Prod.mk.injEq] at hg
      obtain ⟨rfl, rfl⟩ := hg
      simp only [T.wp, T.wp_cond, Fin.fin.injEq, SV.c.injEq, SV.tup.injEq, SV.agg.injEq, List.cons.injEq, Cell.bool.injEq, Cell.int.injEq, and_true, true_and, decide_eq_true_eq]
      unfold F.far
      by_cases h1 : x < -2000 <;> by_cases h2 : 2000 < x <;> by_cases h3 : y < -2000 <;> simp [h1, h2, h3]
    · exact hg.elim
  · exact hg.elim

noncomputable def L_far : Sums cod := (21, .p s_far) :: L_abs
noncomputable def C_far : Cfg cod := mkC L_far

theorem L_far_ok : Snd Try.prog cod L_far := .cons far_sound L_abs_ok

noncomputable def s_pcheck : Summ cod := fun args H => match H with
  | [] => match rd args with
    | some [[_, x, y]] => (.ret (.c (.int .i64 (F.pt x y)), []))
    | _ => .fail
  | _ => .fail

theorem pcheck_tree (x y : Int) : symF C_far [] Try.f18.results.toList (List.length ([] : Heap cod)) 400 [.code (codeOf Try.f18)] ⟨argsS Try.f18 [.agg [.int .i64 x, .int .i64 y]], []⟩ =
 cond (decide (x < -1000000)) (
 .ret (.fin (.c (.int .i64 4)) [])) (
 cond (decide (1000000 < x)) (
  .ret (.fin (.c (.int .i64 4)) [])) (
  cond (decide (y < -1000000)) (
   .ret (.fin (.c (.int .i64 4)) [])) (
   cond (decide (1000000 < y)) (
    .ret (.fin (.c (.int .i64 4)) [])) (
    .ret (.fin (.c (.int .i64 0)) []))))) := by kernel_rfl

theorem pcheck_sound : Sound Try.prog cod 18 s_pcheck := sound_flat (cfg := C_far) L_far_ok mixed Try.func18 rfl rfl _ 400 fun args H r news hg => by
  unfold s_pcheck at hg
  split at hg
  · split at hg
    · rename_i _ x y hrd
      have hargs := rd_spec hrd
      simp only [List.map, wr1, ints, List.tail] at hargs
      subst hargs
      clear hrd
      rw [pcheck_tree]
      try simp only [T.gives, T.wp, Prod.mk.injEq] at hg
      obtain ⟨rfl, rfl⟩ := hg
      simp only [T.wp, T.wp_cond, Fin.fin.injEq, SV.c.injEq, Cell.bool.injEq, Cell.int.injEq, and_true, true_and, decide_eq_true_eq, F.pt, F.inb]
      (repeat' split) <;> simp_all <;> omega
    · exact hg.elim
  · exact hg.elim

noncomputable def L_pcheck : Sums cod := (18, .p s_pcheck) :: L_far
noncomputable def C_pcheck : Cfg cod := mkC L_pcheck

theorem L_pcheck_ok : Snd Try.prog cod L_pcheck := .cons pcheck_sound L_far_ok

noncomputable def s_placed : Summ cod := fun args H => match H with
  | [] => match rd args with
    | some [[_, x, y]] => (.ret (.c (.bool (F.placed x y)), []))
    | _ => .fail
  | _ => .fail

theorem placed_tree (x y : Int) : symF C_pcheck [] Try.f7.results.toList (List.length ([] : Heap cod)) 400 [.code (codeOf Try.f7)] ⟨argsS Try.f7 [.agg [.int .i64 x, .int .i64 y]], []⟩ =
 cond (F.inb x (-1000000) 1000000) (
 .ret (.fin (.c (.bool (F.inb y (-1000000) 1000000))) [])) (
 .ret (.fin (.c (.bool false)) [])) := by kernel_rfl

theorem placed_sound : Sound Try.prog cod 7 s_placed := sound_flat (cfg := C_pcheck) L_pcheck_ok mixed Try.func7 rfl rfl _ 400 fun args H r news hg => by
  unfold s_placed at hg
  split at hg
  · split at hg
    · rename_i _ x y hrd
      have hargs := rd_spec hrd
      simp only [List.map, wr1, ints, List.tail] at hargs
      subst hargs
      clear hrd
      rw [placed_tree]
      try simp only [T.gives, T.wp, Prod.mk.injEq] at hg
      obtain ⟨rfl, rfl⟩ := hg
      simp only [T.wp, T.wp_cond, Fin.fin.injEq, SV.c.injEq, Cell.bool.injEq, Cell.int.injEq, and_true, true_and, decide_eq_true_eq, F.placed]
      (repeat' split) <;> simp_all <;> omega
    · exact hg.elim
  · exact hg.elim

noncomputable def L_placed : Sums cod := (7, .p s_placed) :: L_pcheck
noncomputable def C_placed : Cfg cod := mkC L_placed

theorem L_placed_ok : Snd Try.prog cod L_placed := .cons placed_sound L_pcheck_ok

noncomputable def s_divdown : Summ cod := fun args H => match H with
  | [] => match rd args with
    | some [[a], [b]] => (.need (0 < b ∧ i64ok a) (.ret (.tup [.c (.int .i64 (a / b)), .c (.int .i64 0)], [])))
    | _ => .fail
  | _ => .fail

theorem divdown_tree (a b : Int) : symF C_placed [] Try.f22.results.toList (List.length ([] : Heap cod)) 400 [.code (codeOf Try.f22)] ⟨argsS Try.f22 [.c (.int .i64 a), .c (.int .i64 b)], []⟩ =
 cond (decide (b = 0)) (
 .ret (.fin (.tup [.c (.int .i64 0), .c (.int .i64 10)]) [])) (
 cond (decide (a = -9223372036854775808)) (
  cond (decide (b = -1)) (
   .ret (.fin (.tup [.c (.int .i64 0), .c (.int .i64 2)]) [])) (
   .need (b ≠ 0) (
   .need (i64ok (Int.tdiv a b)) (
   .need (b ≠ 0) (
   cond (!decide (Int.tmod a b = 0)) (
    cond (!decide (a < 0) == decide (b < 0)) (
     .need (i64ok (Int.tdiv a b - 1)) (
     .ret (.fin (.tup [.c (.int .i64 (Int.tdiv a b - 1)), .c (.int .i64 0)]) []))) (
     .ret (.fin (.tup [.c (.int .i64 (Int.tdiv a b)), .c (.int .i64 0)]) []))) (
    .ret (.fin (.tup [.c (.int .i64 (Int.tdiv a b)), .c (.int .i64 0)]) []))))))) (
  .need (b ≠ 0) (
  .need (i64ok (Int.tdiv a b)) (
  .need (b ≠ 0) (
  cond (!decide (Int.tmod a b = 0)) (
   cond (!decide (a < 0) == decide (b < 0)) (
    .need (i64ok (Int.tdiv a b - 1)) (
    .ret (.fin (.tup [.c (.int .i64 (Int.tdiv a b - 1)), .c (.int .i64 0)]) []))) (
    .ret (.fin (.tup [.c (.int .i64 (Int.tdiv a b)), .c (.int .i64 0)]) []))) (
   .ret (.fin (.tup [.c (.int .i64 (Int.tdiv a b)), .c (.int .i64 0)]) []))))))) := by kernel_rfl

theorem divdown_sound : Sound Try.prog cod 22 s_divdown := sound_flat (cfg := C_placed) L_placed_ok mixed Try.func22 rfl rfl _ 400 fun args H r news hg => by
  unfold s_divdown at hg
  split at hg
  · split at hg
    · rename_i a b hrd
      have hargs := rd_spec hrd
      simp only [List.map, wr1, ints, List.tail] at hargs
      subst hargs
      clear hrd
      rw [divdown_tree]
      simp only [T.gives, T.wp, Prod.mk.injEq] at hg
      obtain ⟨⟨h1, h2⟩, rfl, rfl⟩ := hg
      simp only [T.wp, T.wp_cond, Fin.fin.injEq, SV.c.injEq, SV.tup.injEq, SV.agg.injEq, List.cons.injEq, Cell.bool.injEq, Cell.int.injEq, and_true, true_and, decide_eq_true_eq]
      have g1 := tdiv_bd a b h1 h2
      obtain ⟨g2, g3⟩ := floor_tmod a b h1 h2
      have g4 : b ≠ 0 := by omega
      have g5 : ¬ b < 0 := by omega
      have g6 : ¬ b = -1 := by omega
      by_cases hm : a.tmod b = 0
      · have := g3 (.inl hm)
        (repeat' split) <;> simp_all
      · by_cases ha : a < 0
        · have := g2 hm ha
          (repeat' split) <;> simp_all
        · have := g3 (.inr (by omega))
          (repeat' split) <;> simp_all <;> omega
    · exact hg.elim
  · exact hg.elim

noncomputable def L_divdown : Sums cod := (22, .p s_divdown) :: L_placed
noncomputable def C_divdown : Cfg cod := mkC L_divdown

theorem L_divdown_ok : Snd Try.prog cod L_divdown := .cons divdown_sound L_placed_ok

end
end Go.Proofs.Ytbdhppceihcbnaa
end
section
/- A summary that hands back a made row as a row of the caller's own. -/
namespace Go.Proofs.Ytbdhppceihcbnaa.Sym
open Go.RowKit

section
variable {cod : Nat → Codec} {P : Program}
theorem scal_env {env env' : Env} {N N' : Nat} {c : Cell} {v : Value} (h : c.scalar = true) (hr : crel env N c v) : crel env' N' c v := by
  rw [scalar_val h hr]
  exact scalar_rel h
theorem scals_env {env env' : Env} {N N' : Nat} : ∀ {es : List Cell} {vs : List Value}, es.all Cell.scalar = true → F2 (vrel1 env N) (es.map SV.c) vs → F2 (vrel1 env' N') (es.map SV.c) vs
  | [], _, _, .nil => .nil
  | c :: es, _, h, .cons hc ht => by
    simp only [List.all_cons, Bool.and_eq_true] at h
    exact .cons (scal_env h.1 hc) (scals_env h.2 ht)
/-- The new row of a result as an own one. -/
inductive ArrOwn (N : Nat) : SV → Heap cod → SV → Heap cod → Prop where
  | tup (u : Nat) (l : List (cod u).α) (e : TypeId) (es : List Cell) (h : es.all Cell.scalar = true) (hl : 0 < l.length) :
    ArrOwn N (.tup (.c (.slc N 0 l.length true) :: es.map .c)) [.arr u l e] (.tup (.c (.own N l.length) :: es.map .c)) [.own u l e]
  | one (u : Nat) (l : List (cod u).α) (e : TypeId) (hl : 0 < l.length) :
    ArrOwn N (.c (.slc N 0 l.length true)) [.arr u l e] (.c (.own N l.length)) [.own u l e]
theorem arr_own_cell {env env' : Env} {H : Heap cod} {w w' : World} {u : Nat} {l : List (cod u).α} {e : TypeId} (hl : 0 < l.length) (G : Good env H w (newIn w)) (hb : w.heap.size ≤ w'.heap.size) (hk : ∀ k, k < w.heap.size → w'.heap[k]? = w.heap[k]?)
    (hg : Good env' (H ++ [.arr u l e]) w' (newIn w)) {v : Value} (hv : crel env' (H.length + 1) (.slc H.length 0 l.length true) v) :
    ∃ env2, EnvEq H.length env env2 ∧ crel env2 (H.length + 1) (.own H.length l.length) v ∧ Good env2 (H ++ [.own u l e]) w' (newIn w) := by
  obtain ⟨h1, A, c, rfl, h2, h3, h4, h5⟩ := hv
  have hc := h4 rfl
  subst hc
  have hA := h5 hl
  subst hA
  have ho := hg.obj H.length (.arr u l e) (by simp)
  obtain ⟨o1, o2, o3, o4⟩ := ho
  have hadr : (env' H.length).addr 0 0 = ⟨(env' H.length).block, 0, none⟩ := by simp [HV.addr, o1]
  have own : w'.ownsRow 0 e (cod u).size (.slice (some ((env' H.length).addr 0 0)) l.length l.length) l.length (vals (cod u) l) := by
    refine ⟨vals_len _ _, .inr ⟨(env' H.length).block, l.length, (vals (cod u) l).toArray, by rw [hadr], Nat.zero_le _, o4, Nat.le_refl _, h3, by simp [vals_len], ?_⟩⟩
    rw [List.toList_toArray, ← vals_len, List.take_length]
  refine ⟨env.set H.length ⟨(Value.slice (some ((env' H.length).addr 0 0)) l.length l.length).ownBlock.getD 0, 0, (cod u).size, .slice (some ((env' H.length).addr 0 0)) l.length l.length, []⟩, Env.set_eq env _ _, own_cell own rfl _ (by omega) (Env.set_same _ _ _), ?_⟩
  refine G.push _ _ hb hk (own_obj own (fun b hb => ?_) _ _) (fun b hb => ?_)
  · simp only [Value.ownBlock, hadr, Option.some.injEq] at hb
    rw [← hb]
    exact o3
  simp only [HObj.has, Value.ownBlock, Option.some.injEq] at hb
  rw [← hb]
  exact o3
theorem Sound.arr_own {g : FuncId} {s s' : Summ cod} (h : Sound P cod g s) (hs : ∀ (args : List SV) (H : Heap cod) (r : SV) (news : Heap cod), (s' args H).gives (r, news) → (s args H).gives (r, news) ∨ ∃ r0 news0, ArrOwn H.length r0 news0 r news ∧ (s args H).gives (r0, news0)) : Sound P cod g s' := by
  refine ⟨h.enters, fun args H env w vs r news hro G ha hg => ?_⟩
  rcases hs args H r news hg with hg | ⟨r0, news0, hc, hg⟩
  · exact h.calls args H env w vs r news hro G ha hg
  · refine (h.calls args H env w vs r0 news0 hro G ha hg).mono ?_
    rintro e w' ⟨v, env', rfl, heq, hv, hgd, hb⟩
    cases hc with
    | tup u l e es he hl =>
      obtain ⟨us, rfl, hu⟩ := hv
      generalize hus : us.toList = ul at hu
      cases hu with
      | @cons _ v0 _ vs' h0 ht =>
        obtain ⟨env2, g1, g2, g3⟩ := arr_own_cell hl G hb.below.size (fun k hk => hb.below.block k hk) hgd h0
        exact ⟨_, env2, rfl, g1, ⟨us, rfl, by rw [hus]; exact .cons g2 (scals_env he ht)⟩, g3, hb⟩
    | one u l e hl =>
      obtain ⟨env2, g1, g2, g3⟩ := arr_own_cell hl G hb.below.size (fun k hk => hb.below.block k hk) hgd hv
      exact ⟨_, env2, rfl, g1, g2, g3, hb⟩
end
end Go.Proofs.Ytbdhppceihcbnaa.Sym
end
