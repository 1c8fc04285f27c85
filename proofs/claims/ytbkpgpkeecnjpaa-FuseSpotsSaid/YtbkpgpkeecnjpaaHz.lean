/- Part of a claim: lemmas on the way to its theorem; each states its own conditions. -/
import Derived.Test.YtbkpgpkeecnjpaaHy
namespace Go.Proofs.Ytbkpgpkeecnjpaa
open Sym Go.RowKit
noncomputable section
set_option maxRecDepth 100000
set_option maxHeartbeats 4000000



namespace F
def wr (n : Int) : Bool := decide (n < 0) || decide (60000 < n)
def spv (x : Sp) : Int := spot x.1 x.2.1 x.2.2.1 x.2.2.2.1 x.2.2.2.2.1 x.2.2.2.2.2
def spc (l : List Sp) : Nat → Nat → Int
  | 0, _ => 0
  | m + 1, j => if spv (l.getD j sp0) = 0 then spc l m (j + 1) else spv (l.getD j sp0)
def spE (l : List Sp) (band : Int) : Int := if 128 < l.length then 2 else (if spc l l.length 0 = 0 then (if wr band then 4 else 0) else spc l l.length 0)
def dd (band : Int) : List Sp → List Sp → List Sp
  | [], os => os
  | s :: l, os => dd band l (if anyQ (alk band s) os os.length 0 then os else os ++ [s])
def spots (l : List Sp) (band : Int) : List Sp := dd band (sortS l) []
end F
noncomputable def s_sort0 : Summ cod := fun args _ => match args with
  | .c (.slc _ _ n _)  :: fs => if fnArgs fs = some [41] then .need (n = 0) (.ret (.tup [], [])) else .fail
  | _ => .fail

noncomputable def s_wrong : Summ cod := fun args H => match H with
  | [] => match rd args with
    | some [[n]] => (.ret (.c (.bool (F.wr n)), []))
    | _ => .fail
  | _ => .fail

theorem wrong_tree (n : Int) : symF C_con2 [] Try.f64.results.toList (List.length ([] : Heap cod)) 400 [.code (codeOf Try.f64)] ⟨argsS Try.f64 [.c (.int .i64 n)], []⟩ =
 cond (decide (n < 0)) (
 .ret (.fin (.c (.bool true)) [])) (
 .ret (.fin (.c (.bool (decide (60000 < n)))) [])) := by kernel_rfl

theorem wrong_sound : Sound Try.prog cod 64 s_wrong := sound_flat (cfg := C_con2) L_con2_ok mixed Try.func64 rfl rfl _ 400 fun args H r news hg => by
  unfold s_wrong at hg
  split at hg
  · split at hg
    · rename_i n hrd
      have hargs := rd_spec hrd
      simp only [List.map, wr1, ints, List.tail] at hargs
      subst hargs
      clear hrd
      rw [wrong_tree]
      simp only [T.gives, T.wp, Prod.mk.injEq] at hg
      obtain ⟨rfl, rfl⟩ := hg
      simp only [T.wp, T.wp_cond, Fin.fin.injEq, SV.c.injEq, SV.tup.injEq, SV.agg.injEq, List.cons.injEq, Cell.bool.injEq, Cell.int.injEq, and_true, true_and, decide_eq_true_eq]
      unfold F.wr
      by_cases h1 : n < 0 <;> by_cases h2 : 60000 < n <;> simp [h1, h2]
    · exact hg.elim
  · exact hg.elim

noncomputable def L_wrong : Sums cod := (64, .p s_wrong) :: L_con2
noncomputable def C_wrong : Cfg cod := mkC L_wrong

theorem L_wrong_ok : Snd Try.prog cod L_wrong := .cons wrong_sound L_con2_ok


theorem sort0_sound : Sound Try.prog cod 66 s_sort0 := by
  refine ⟨sortS_sound.enters, fun args H env w vs r news hro G ha hg => ?_⟩
  unfold s_sort0 at hg
  split at hg
  · rename_i x i n t fs
    split at hg
    · rename_i hex
      obtain ⟨hn, hr⟩ := hg
      subst hn
      cases hr
      cases ha with
      | @cons _ v0 _ vs hx hxs =>
        have hvs := fnArgs_rel hex hxs
        subst hvs
        obtain ⟨hN, A, c, rfl, h1, h2, h3, h4⟩ := hx
        refine (sortS_none A c w).mono ?_
        rintro e w' ⟨rfl, rfl⟩
        exact ⟨_, env, rfl, EnvEq.refl _ _, ⟨#[], rfl, .nil⟩, by simpa using G, ⟨Below.refl _ _, Nat.le_refl _⟩⟩
    · exact hg.elim
  · exact hg.elim

noncomputable def L_sort0 : Sums cod := (66, .p s_sort0) :: L_wrong
noncomputable def C_sort0 : Cfg cod := mkC L_sort0

theorem L_sort0_ok : Snd Try.prog cod L_sort0 := .cons sort0_sound L_wrong_ok



def cuts_spots0 : Cuts := [(4, [16, 3, 0, 17, 18], 3), (16, [3, 34, 35, 36, 10], 4)]

theorem spots0_t0 (l : List (Int × Int × Int × Int × Int × Int)) (l_t : Bool) (band : Int) : symF C_sort0 cuts_spots0 Try.f39.results.toList 1 400 [.code (codeOf Try.f39)] ⟨argsS Try.f39 [.c (.slc 0 0 (List.length l) l_t), .c (.int .i64 band)], ([.inp 2 l] : Heap cod)⟩ =
 cond (decide (128 < Int.ofNat (List.length l))) (
 .ret (.fin (.tup [.c (.own 1 0), .c (.int .i64 2)]) [.own 2 [] 81])) (
 .ret (.cut (cutAt Try.f39 4) ⟨tmG 31 [(0, .c (.slc 0 0 (List.length l) l_t)), (2, .c (.ptr 1 0 0)), (12, .c (.slc 0 0 (List.length l) l_t)), (0, .c (.int .i64 (Int.ofNat (List.length l)))), (0, .c (.int .i64 0))], [.inp 2 l, .blk [.int .i64 band] 3, .own 2 [] 81]⟩)) := by kernel_rfl


noncomputable def st_spots0_4 (l : List (Int × Int × Int × Int × Int × Int)) (l_t : Bool) (band : Int) (k : Int) : St cod := ⟨tmG 31 [(0, .c (.slc 0 0 (List.length l) l_t)), (2, .c (.ptr 1 0 0)), (12, .c (.slc 0 0 (List.length l) l_t)), (0, .c (.int .i64 (Int.ofNat (List.length l)))), (0, .c (.int .i64 k))], [.inp 2 l, .blk [.int .i64 band] 3, .own 2 [] 81]⟩


theorem spots0_t4 (l : List (Int × Int × Int × Int × Int × Int)) (l_t : Bool) (band : Int) (k : Int) : symF C_sort0 cuts_spots0 Try.f39.results.toList 1 400 (cutAt Try.f39 4) (st_spots0_4 l l_t band k) =
 cond (decide (k < Int.ofNat (List.length l))) (
 .need (((0 : Int) ≤ k ∧ k < Int.ofNat (List.length l))) (
 .need (0 + Int.toNat k < List.length l) (
 cond (!decide     (F.spot (List.getD l (0 + Int.toNat k) (cod 2).d).1 (List.getD l (0 + Int.toNat k) (cod 2).d).2.1         (List.getD l (0 + Int.toNat k) (cod 2).d).2.2.1 (List.getD l (0 + Int.toNat k) (cod 2).d).2.2.2.1         (List.getD l (0 + Int.toNat k) (cod 2).d).2.2.2.2.1 (List.getD l (0 + Int.toNat k) (cod 2).d).2.2.2.2.2 =       0)) (
  .ret (.fin (.tup [.c (.own 1 0), .c (.int .i64 (F.spot (List.getD l (0 + Int.toNat k) (cod 2).d).1 (List.getD l (0 + Int.toNat k) (cod 2).d).2.1   (List.getD l (0 + Int.toNat k) (cod 2).d).2.2.1 (List.getD l (0 + Int.toNat k) (cod 2).d).2.2.2.1   (List.getD l (0 + Int.toNat k) (cod 2).d).2.2.2.2.1 (List.getD l (0 + Int.toNat k) (cod 2).d).2.2.2.2.2))]) [.own 2 [] 81])) (
  .need (i64ok (k + 1)) (
  .ret (.cut (cutAt Try.f39 4) ⟨tmG 31 [(0, .c (.slc 0 0 (List.length l) l_t)), (2, .c (.ptr 1 0 0)), (12, .c (.slc 0 0 (List.length l) l_t)), (0, .c (.int .i64 (Int.ofNat (List.length l)))), (0, .c (.int .i64 (k + 1)))], [.inp 2 l, .blk [.int .i64 band] 3, .own 2 [] 81]⟩)))))) (
 cond (F.wr band) (
  .ret (.fin (.tup [.c (.own 1 0), .c (.int .i64 4)]) [.own 2 [] 81])) (
  .ite (decide (List.length l = 0)) (
   .need (List.length l = 0) (
   .need (0 = 0) (
   .ret (.cut (cutAt Try.f39 16) ⟨tmG 13 [(3, .c (.ptr 1 0 0)), (6, .c (.own 3 0)), (23, .c (.slc 0 0 0 true)), (0, .c (.int .i64 (Int.ofNat 0))), (0, .c (.int .i64 0))], [.inp 2 l, .blk [.int .i64 band] 3, .own 2 [] 81, .own 2 [] 81]⟩)))) (
   .need ((0 + List.length l ≤ List.length l ∧ ((0 : Nat) < List.length l ∧ List.length l ≤ 1000000))) (
   .need (List.length l = 0) (
   .ret (.cut (cutAt Try.f39 16) ⟨tmG 13 [(3, .c (.ptr 1 0 0)), (30, .c (.own 3 (List.length l))), (0, .c (.int .i64 (Int.ofNat (List.length l)))), (0, .c (.int .i64 0))], [.inp 2 l, .blk [.int .i64 band] 3, .own 2 [] 81, .own 2 (List.take (List.length l) (List.drop 0 l)) 81]⟩)))))) := by kernel_rfl


noncomputable def st_spots0_16 (l : List (Int × Int × Int × Int × Int × Int)) (l_t : Bool) (band : Int) (k : Int) : St cod := ⟨tmG 13 [(3, .c (.ptr 1 0 0)), (6, .c (.own 3 0)), (23, .c (.slc 0 0 0 true)), (0, .c (.int .i64 (Int.ofNat 0))), (0, .c (.int .i64 0))], [.inp 2 l, .blk [.int .i64 band] 3, .own 2 [] 81, .own 2 [] 81]⟩


theorem spots0_t16 (l : List (Int × Int × Int × Int × Int × Int)) (l_t : Bool) (band : Int) (k : Int) : symF C_sort0 cuts_spots0 Try.f39.results.toList 1 400 (cutAt Try.f39 16) (st_spots0_16 l l_t band k) =
.ret (.fin (.tup [.c (.own 1 0), .c (.int .i64 0)]) [.own 2 [] 81]) := by kernel_rfl



theorem spots0_run (l : List (Int × Int × Int × Int × Int × Int)) (l_t : Bool) (band : Int) (b0 : Base) (hb : b0.n = 1) (h0 : i64ok band) (h1 : List.length l = 0) : Sym.Runs Try.prog b0 [.code (codeOf Try.f39)] ⟨argsS Try.f39 [.c (.slc 0 0 (List.length l) l_t), .c (.int .i64 band)], ([.inp 2 l] : Heap cod)⟩ (Sym.Ends Try.prog Try.f39 1 (.tup [.c (.own 1 0), .c (.int .i64 (F.spE l band))]) [.own 2 [] 81]) := by
  have hl : l = [] := List.eq_nil_of_length_eq_zero h1
  subst hl
  have hE : F.spE [] band = if F.wr band then 4 else 0 := rfl
  rw [hE]
  refine Runs.go (cfg := C_sort0) L_sort0_ok mixed cuts_spots0 400 hb (spots0_t0 [] l_t band) ?_
  simp only [T.wp, T.wp_cond, Aft, Int.ofNat_eq_natCast, decide_eq_true_eq, and_true, true_and, Nat.zero_add, Bool.not_eq_true', decide_eq_false_iff_not]
  rw [if_neg (by decide)]
  refine Runs.go (cfg := C_sort0) L_sort0_ok mixed cuts_spots0 400 hb (spots0_t4 [] l_t band 0) ?_
  simp only [T.wp, T.wp_cond, Aft, Int.ofNat_eq_natCast, decide_eq_true_eq, and_true, true_and, Nat.zero_add, Bool.not_eq_true', decide_eq_false_iff_not]
  rw [if_neg (by decide)]
  cases F.wr band with
  | true => rfl
  | false =>
    rw [if_neg Bool.false_ne_true]
    refine ⟨fun _ => ⟨rfl, ?_⟩, fun h => absurd rfl h⟩
    exact Runs.go (cfg := C_sort0) L_sort0_ok mixed cuts_spots0 400 hb (spots0_t16 [] l_t band 0) ⟨rfl, rfl⟩



noncomputable def s_spots0 : Summ cod := fun args H => match args, H with
  | [.c (.slc 0 l_i l_n l_t), .c (.int .i64 band)], [o0] => (match o0.asInp 2 with | some l => .need ((l_i = 0 ∧ l_n = List.length l) ∧ (i64ok band) ∧ (List.length l = 0)) (.ret (.tup [.c (.own 1 0), .c (.int .i64 (F.spE l band))], [.own 2 [] 81])) | none => .fail)
  | _, _ => .fail


theorem spots0_sound : Sound Try.prog cod 39 s_spots0 := sound_runs (cfg := C_sort0) L_sort0_ok mixed Try.func39 rfl rfl _ fun args H r news hg b0 hb => by
  unfold s_spots0 at hg
  split at hg
  · skip
    split at hg
    · rename_i l hx0
      cases asInp_spec hx0
      simp only [T.gives, T.wp, Prod.mk.injEq] at hg
      obtain ⟨⟨⟨rfl, rfl⟩, q1, q2⟩, rfl, rfl⟩ := hg
      exact spots0_run _ _ _ b0 hb (by assumption) (by assumption)
    · exact hg.elim
  · exact hg.elim

noncomputable def L_spots0 : Sums cod := (39, .p s_spots0) :: L_sort0
noncomputable def C_spots0 : Cfg cod := mkC L_spots0

theorem L_spots0_ok : Snd Try.prog cod L_spots0 := .cons spots0_sound L_sort0_ok




noncomputable def L_sortS : Sums cod := (66, .k s_sortS) :: L_wrong
noncomputable def C_sortS : Cfg cod := mkC L_sortS

theorem L_sortS_ok : Snd Try.prog cod L_sortS := .consK sortS_sound L_wrong_ok



def cuts_spots : Cuts := [(4, [16, 3, 0, 17, 18], 3), (16, [3, 34, 35, 36, 10], 5)]

theorem spots_t0 (l : List (Int × Int × Int × Int × Int × Int)) (l_t : Bool) (band : Int) : symF C_sortS cuts_spots Try.f39.results.toList 1 400 [.code (codeOf Try.f39)] ⟨argsS Try.f39 [.c (.slc 0 0 (List.length l) l_t), .c (.int .i64 band)], ([.inp 2 l] : Heap cod)⟩ =
 cond (decide (128 < Int.ofNat (List.length l))) (
 .ret (.fin (.tup [.c (.own 1 0), .c (.int .i64 2)]) [.own 2 [] 81])) (
 .ret (.cut (cutAt Try.f39 4) ⟨tmG 31 [(0, .c (.slc 0 0 (List.length l) l_t)), (2, .c (.ptr 1 0 0)), (12, .c (.slc 0 0 (List.length l) l_t)), (0, .c (.int .i64 (Int.ofNat (List.length l)))), (0, .c (.int .i64 0))], [.inp 2 l, .blk [.int .i64 band] 3, .own 2 [] 81]⟩)) := by kernel_rfl


noncomputable def st_spots_4 (l : List (Int × Int × Int × Int × Int × Int)) (l_t : Bool) (band : Int) (k : Int) : St cod := ⟨tmG 31 [(0, .c (.slc 0 0 (List.length l) l_t)), (2, .c (.ptr 1 0 0)), (12, .c (.slc 0 0 (List.length l) l_t)), (0, .c (.int .i64 (Int.ofNat (List.length l)))), (0, .c (.int .i64 k))], [.inp 2 l, .blk [.int .i64 band] 3, .own 2 [] 81]⟩


theorem spots_t4 (l : List (Int × Int × Int × Int × Int × Int)) (l_t : Bool) (band : Int) (k : Int) : symF C_sortS cuts_spots Try.f39.results.toList 1 400 (cutAt Try.f39 4) (st_spots_4 l l_t band k) =
 cond (decide (k < Int.ofNat (List.length l))) (
 .need (((0 : Int) ≤ k ∧ k < Int.ofNat (List.length l))) (
 .need (0 + Int.toNat k < List.length l) (
 cond (!decide     (F.spot (List.getD l (0 + Int.toNat k) (cod 2).d).1 (List.getD l (0 + Int.toNat k) (cod 2).d).2.1         (List.getD l (0 + Int.toNat k) (cod 2).d).2.2.1 (List.getD l (0 + Int.toNat k) (cod 2).d).2.2.2.1         (List.getD l (0 + Int.toNat k) (cod 2).d).2.2.2.2.1 (List.getD l (0 + Int.toNat k) (cod 2).d).2.2.2.2.2 =       0)) (
  .ret (.fin (.tup [.c (.own 1 0), .c (.int .i64 (F.spot (List.getD l (0 + Int.toNat k) (cod 2).d).1 (List.getD l (0 + Int.toNat k) (cod 2).d).2.1   (List.getD l (0 + Int.toNat k) (cod 2).d).2.2.1 (List.getD l (0 + Int.toNat k) (cod 2).d).2.2.2.1   (List.getD l (0 + Int.toNat k) (cod 2).d).2.2.2.2.1 (List.getD l (0 + Int.toNat k) (cod 2).d).2.2.2.2.2))]) [.own 2 [] 81])) (
  .need (i64ok (k + 1)) (
  .ret (.cut (cutAt Try.f39 4) ⟨tmG 31 [(0, .c (.slc 0 0 (List.length l) l_t)), (2, .c (.ptr 1 0 0)), (12, .c (.slc 0 0 (List.length l) l_t)), (0, .c (.int .i64 (Int.ofNat (List.length l)))), (0, .c (.int .i64 (k + 1)))], [.inp 2 l, .blk [.int .i64 band] 3, .own 2 [] 81]⟩)))))) (
 cond (F.wr band) (
  .ret (.fin (.tup [.c (.own 1 0), .c (.int .i64 4)]) [.own 2 [] 81])) (
  .ite (decide (List.length l = 0)) (
   .need (List.length l = 0) (
   .fail)) (
   .need ((0 + List.length l ≤ List.length l ∧ ((0 : Nat) < List.length l ∧ List.length l ≤ 1000000))) (
   .need (List.length (List.take (List.length l) (List.drop 0 l)) ≤ 1000000) (
   .ret (.cut (cutAt Try.f39 16) ⟨tmG 13 [(3, .c (.ptr 1 0 0)), (6, .c (.own 4 0)), (23, .c (.own 3 (List.length l))), (0, .c (.int .i64 (Int.ofNat (List.length l)))), (0, .c (.int .i64 0))], [.inp 2 l, .blk [.int .i64 band] 3, .own 2 [] 81, .own 2 (F.sortS (List.take (List.length l) (List.drop 0 l))) 81, .own 2 [] 81]⟩)))))) := by kernel_rfl


noncomputable def st_spots_16 (l : List (Int × Int × Int × Int × Int × Int)) (l_t : Bool) (band : Int) (ts os : List (Int × Int × Int × Int × Int × Int)) (tn on : Nat) (k : Int) : St cod := ⟨tmG 13 [(3, .c (.ptr 1 0 0)), (6, .c (.own 4 on)), (23, .c (.own 3 tn)), (0, .c (.int .i64 tn)), (0, .c (.int .i64 k))], ([.inp 2 l, .blk [.int .i64 band] 3, .own 2 [] 81, .own 2 ts 81, .own 2 os 81] : Heap cod)⟩


theorem spots_t16 (l : List (Int × Int × Int × Int × Int × Int)) (l_t : Bool) (band : Int) (ts os : List (Int × Int × Int × Int × Int × Int)) (tn on : Nat) (k : Int) : symF C_sortS cuts_spots Try.f39.results.toList 1 400 (cutAt Try.f39 16) (st_spots_16 l l_t band ts os tn on k) =
 cond (decide (k < Int.ofNat tn)) (
 .need (((0 : Int) ≤ k ∧ k < Int.ofNat tn)) (
 .need (0 + Int.toNat k < List.length ts) (
 .need ((0 + on ≤ List.length os ∧ (List.length os ≤ 1000000 ∧ (F.spOk   ((List.getD ts (0 + Int.toNat k) (cod 2).d).1, (List.getD ts (0 + Int.toNat k) (cod 2).d).2.1,     (List.getD ts (0 + Int.toNat k) (cod 2).d).2.2.1, (List.getD ts (0 + Int.toNat k) (cod 2).d).2.2.2.1,     (List.getD ts (0 + Int.toNat k) (cod 2).d).2.2.2.2.1, (List.getD ts (0 + Int.toNat k) (cod 2).d).2.2.2.2.2)   band ∧ F.allS os)))) (
 cond (!F.anyQ     (F.alk band       ((List.getD ts (0 + Int.toNat k) (cod 2).d).1, (List.getD ts (0 + Int.toNat k) (cod 2).d).2.1,         (List.getD ts (0 + Int.toNat k) (cod 2).d).2.2.1, (List.getD ts (0 + Int.toNat k) (cod 2).d).2.2.2.1,         (List.getD ts (0 + Int.toNat k) (cod 2).d).2.2.2.2.1, (List.getD ts (0 + Int.toNat k) (cod 2).d).2.2.2.2.2))     os on 0) (
  .need (1 = 1) (
  .need (on + 1 ≤ 1000000) (
  .need (i64ok (k + 1)) (
  .ret (.cut (cutAt Try.f39 16) ⟨tmG 13 [(3, .c (.ptr 1 0 0)), (6, .c (.own 4 (on + 1))), (23, .c (.own 3 (tn))), (0, .c (.int .i64 (Int.ofNat tn))), (0, .c (.int .i64 (k + 1)))], [.inp 2 l, .blk [.int .i64 band] 3, .own 2 [] 81, .own 2 ts 81, .own 2 (os ++ ([((List.getD ts (0 + Int.toNat k) (cod 2).d).1, (List.getD ts (0 + Int.toNat k) (cod 2).d).2.1,     (List.getD ts (0 + Int.toNat k) (cod 2).d).2.2.1, (List.getD ts (0 + Int.toNat k) (cod 2).d).2.2.2.1,     (List.getD ts (0 + Int.toNat k) (cod 2).d).2.2.2.2.1, (List.getD ts (0 + Int.toNat k) (cod 2).d).2.2.2.2.2)])) 81]⟩))))) (
  .need (i64ok (k + 1)) (
  .ret (.cut (cutAt Try.f39 16) ⟨tmG 13 [(3, .c (.ptr 1 0 0)), (6, .c (.own 4 (on))), (23, .c (.own 3 (tn))), (0, .c (.int .i64 (Int.ofNat tn))), (0, .c (.int .i64 (k + 1)))], [.inp 2 l, .blk [.int .i64 band] 3, .own 2 [] 81, .own 2 ts 81, .own 2 os 81]⟩))))))) (
 .ret (.fin (.tup [.c (.own 1 (on)), .c (.int .i64 0)]) [.own 2 os 81])) := by kernel_rfl



theorem ite_yes {c : Prop} [Decidable c] {a b : Prop} (h : c) (x : a) : if c then a else b := by rw [if_pos h]; exact x
theorem ite_no {c : Prop} [Decidable c] {a b : Prop} (h : ¬ c) (x : b) : if c then a else b := by rw [if_neg h]; exact x
theorem F.sp1_of {x : F.Sp} (h : F.spv x = 0) : F.sp1 x := h
theorem getD_mem' {l : List F.Sp} {i : Nat} (h : i < l.length) : l.getD i F.sp0 ∈ l := by
  rw [List.getD, List.getElem?_eq_getElem h]
  exact List.getElem_mem h
theorem spots_l16 (l : List F.Sp) (l_t : Bool) (band : Int) (hw : 0 ≤ band ∧ band ≤ 60000) (b0 : Base) (hb : b0.n = 1) (ts : List F.Sp) (tn : Nat) (htn : tn = ts.length) (h128 : tn ≤ 128) (ha : F.allS ts) (R : SV) (N : Heap cod) :
    ∀ (m : Nat) (k : Int) (os : List F.Sp) (on : Nat), on = os.length → 0 ≤ k → k + m = tn → on + m ≤ 128 → F.allS os → (.tup [.c (.own 1 (List.length (F.dd band (ts.drop k.toNat) os))), .c (.int .i64 0)] = R ∧ [.own 2 (F.dd band (ts.drop k.toNat) os) 81] = N) →
    Sym.Runs Try.prog b0 (cutAt Try.f39 16) (st_spots_16 l l_t band ts os tn on k) (Sym.Ends Try.prog Try.f39 1 R N) := by
  intro m
  induction m with
  | zero =>
    intro k os on hon h0 hm h3 hs hR
    refine Runs.go (cfg := C_sortS) L_sortS_ok mixed cuts_spots 400 hb (spots_t16 l l_t band ts os tn on k) ?_
    simp only [T.wp, T.wp_cond, Aft, decide_eq_true_eq]
    rw [if_neg (by simp only [Int.ofNat_eq_natCast]; omega)]
    rw [List.drop_eq_nil_of_le (by omega)] at hR
    simp only [F.dd, ← hon] at hR
    exact hR
  | succ m ih =>
    intro k os on hon h0 hm h3 hs hR
    have k2 : k.toNat < ts.length := by omega
    have hd : ts.drop k.toNat = ts.getD k.toNat F.sp0 :: ts.drop (k + 1).toNat := by
      rw [List.drop_eq_getElem_cons k2, List.getD, List.getElem?_eq_getElem k2, show (k + 1).toNat = k.toNat + 1 by omega]
      rfl
    have hx := ha _ (getD_mem' k2)
    rw [hd, F.dd, ← hon] at hR
    refine Runs.go (cfg := C_sortS) L_sortS_ok mixed cuts_spots 400 hb (spots_t16 l l_t band ts os tn on k) ?_
    simp only [T.wp, T.wp_cond, Aft, decide_eq_true_eq]
    rw [if_pos (by simp only [Int.ofNat_eq_natCast]; omega)]
    refine ⟨by simp only [Int.ofNat_eq_natCast]; omega, by omega, ⟨by omega, by omega, ⟨?_, hw.1, hw.2⟩, hs⟩, ?_⟩
    · rw [Nat.zero_add]; exact hx
    · rw [Nat.zero_add]
      cases hq : F.anyQ (F.alk band (ts.getD k.toNat F.sp0)) os on 0 with
      | true =>
        rw [hq, if_pos rfl] at hR
        have nx := ih (k + 1) os on hon (by omega) (by omega) (by omega) hs hR
        refine ite_no (by
          change ¬ (!F.anyQ (F.alk band (ts.getD k.toNat F.sp0)) os on 0) = true
          rw [hq]; decide) ?_
        exact ⟨by unfold i64ok; omega, nx⟩
      | false =>
        rw [hq, if_neg Bool.false_ne_true] at hR
        have nx := ih (k + 1) (os ++ [ts.getD k.toNat F.sp0]) (on + 1) (by simp [hon]) (by omega) (by omega) (by omega) (fun x hx' => by
          rcases List.mem_append.1 hx' with h | h
          · exact hs x h
          · rw [List.mem_singleton.1 h]; exact hx) hR
        refine ite_yes (by
          change (!F.anyQ (F.alk band (ts.getD k.toNat F.sp0)) os on 0) = true
          rw [hq]; rfl) ?_
        exact ⟨trivial, by omega, by unfold i64ok; omega, nx⟩
theorem spots_l4 (l : List F.Sp) (l_t : Bool) (band : Int) (b0 : Base) (hb : b0.n = 1) (hne : ¬ l.length = 0) (h128 : l.length ≤ 128) (R : SV) (N : Heap cod)
    (hY : F.spE l band = 0 → .tup [.c (.own 1 (List.length (F.spots l band))), .c (.int .i64 0)] = R ∧ [.own 2 (F.spots l band) 81] = N) (hN : F.spE l band ≠ 0 → .tup [.c (.own 1 0), .c (.int .i64 (F.spE l band))] = R ∧ [.own 2 [] 81] = N) :
    ∀ (m : Nat) (k : Int), 0 ≤ k → k + m = l.length → (∀ j, j < k.toNat → F.sp1 (l.getD j F.sp0)) → F.spE l band = (if F.spc l m k.toNat = 0 then (if F.wr band then 4 else 0) else F.spc l m k.toNat) →
    Sym.Runs Try.prog b0 (cutAt Try.f39 4) (st_spots_4 l l_t band k) (Sym.Ends Try.prog Try.f39 1 R N) := by
  intro m
  induction m with
  | zero =>
    intro k h0 hm hall hE
    refine Runs.go (cfg := C_sortS) L_sortS_ok mixed cuts_spots 400 hb (spots_t4 l l_t band k) ?_
    simp only [T.wp, T.wp_cond, Aft, decide_eq_true_eq]
    rw [if_neg (by simp only [Int.ofNat_eq_natCast]; omega)]
    simp only [F.spc, if_true] at hE
    cases hw : F.wr band with
    | true =>
      rw [hw, if_pos rfl] at hE
      rw [if_pos rfl]
      have := hN (by rw [hE]; decide)
      rw [hE] at this
      exact this
    | false =>
      rw [hw, if_neg Bool.false_ne_true] at hE
      rw [if_neg Bool.false_ne_true]
      have ha : F.allS l := fun x hx => by
        obtain ⟨i, hi, rfl⟩ := List.getElem_of_mem hx
        have := hall i (by omega)
        rw [List.getD, List.getElem?_eq_getElem hi] at this
        exact this
      have hwb : 0 ≤ band ∧ band ≤ 60000 := by
        unfold F.wr at hw
        simp only [Bool.or_eq_false_iff, decide_eq_false_iff_not] at hw
        omega
      refine ⟨fun h => absurd h hne, fun _ => ⟨⟨by omega, by omega, by omega⟩, ?_⟩⟩
      rw [List.drop_zero, List.take_length]
      have hlen := sortS_len l
      exact ⟨by omega, spots_l16 l l_t band hwb b0 hb (F.sortS l) l.length hlen.symm h128 (fun x hx => ha x ((sortS_perm l).mem_iff.1 hx)) R N l.length 0 [] 0 rfl (by omega) (by omega) (by omega) (fun x hx => by cases hx) (hY hE)⟩
  | succ m ih =>
    intro k h0 hm hall hE
    have k2 : k.toNat < l.length := by omega
    refine Runs.go (cfg := C_sortS) L_sortS_ok mixed cuts_spots 400 hb (spots_t4 l l_t band k) ?_
    simp only [T.wp, T.wp_cond, Aft, decide_eq_true_eq]
    rw [if_pos (by simp only [Int.ofNat_eq_natCast]; omega)]
    refine ⟨by simp only [Int.ofNat_eq_natCast]; omega, by omega, ?_⟩
    rw [Nat.zero_add]
    rw [F.spc] at hE
    by_cases hv : F.spv (l.getD k.toNat F.sp0) = 0
    · rw [if_pos hv] at hE
      have nx := ih (k + 1) (by omega) (by omega) (fun j hj => by
        by_cases e : j = k.toNat
        · rw [e]; exact hv
        · exact hall j (by omega)) (by rw [show (k + 1).toNat = k.toNat + 1 by omega]; exact hE)
      refine ite_no (by
        change ¬ (!decide (F.spv (l.getD k.toNat F.sp0) = 0)) = true
        rw [hv]; decide) ?_
      exact ⟨by unfold i64ok; omega, nx⟩
    · rw [if_neg hv, if_neg hv] at hE
      refine ite_yes (by
        change (!decide (F.spv (l.getD k.toNat F.sp0) = 0)) = true
        rw [decide_eq_false hv]; rfl) ?_
      have := hN (by rw [hE]; exact hv)
      rw [hE] at this
      exact this
theorem spots_gen (l : List F.Sp) (l_t : Bool) (band : Int) (b0 : Base) (hb : b0.n = 1) (hne : ¬ l.length = 0) (R : SV) (N : Heap cod)
    (hY : F.spE l band = 0 → .tup [.c (.own 1 (List.length (F.spots l band))), .c (.int .i64 0)] = R ∧ [.own 2 (F.spots l band) 81] = N) (hN : F.spE l band ≠ 0 → .tup [.c (.own 1 0), .c (.int .i64 (F.spE l band))] = R ∧ [.own 2 [] 81] = N) :
    Sym.Runs Try.prog b0 [.code (codeOf Try.f39)] ⟨argsS Try.f39 [.c (.slc 0 0 (List.length l) l_t), .c (.int .i64 band)], ([.inp 2 l] : Heap cod)⟩ (Sym.Ends Try.prog Try.f39 1 R N) := by
  refine Runs.go (cfg := C_sortS) L_sortS_ok mixed cuts_spots 400 hb (spots_t0 l l_t band) ?_
  simp only [T.wp, T.wp_cond, Aft, decide_eq_true_eq]
  by_cases c : 128 < l.length
  · rw [if_pos (by simp only [Int.ofNat_eq_natCast]; omega)]
    have hE : F.spE l band = 2 := by rw [F.spE, if_pos c]
    have := hN (by rw [hE]; decide)
    rw [hE] at this
    exact this
  · rw [if_neg (by simp only [Int.ofNat_eq_natCast]; omega)]
    exact spots_l4 l l_t band b0 hb hne (by omega) R N hY hN l.length 0 (by omega) (by omega) (fun j hj => absurd hj (by omega)) (by rw [F.spE, if_neg c]; rfl)
theorem spots_run (l : List (Int × Int × Int × Int × Int × Int)) (l_t : Bool) (band : Int) (b0 : Base) (hb : b0.n = 1) (h0 : i64ok band) (h1 : ¬ List.length l = 0) (h2 : F.spE l band = 0) : Sym.Runs Try.prog b0 [.code (codeOf Try.f39)] ⟨argsS Try.f39 [.c (.slc 0 0 (List.length l) l_t), .c (.int .i64 band)], ([.inp 2 l] : Heap cod)⟩ (Sym.Ends Try.prog Try.f39 1 (.tup [.c (.own 1 (List.length (F.spots l band))), .c (.int .i64 0)]) [.own 2 (F.spots l band) 81]) := by
  exact spots_gen l l_t band b0 hb h1 _ _ (fun _ => ⟨rfl, rfl⟩) (fun h => absurd h2 h)



noncomputable def s_spots : Summ cod := fun args H => match args, H with
  | [.c (.slc 0 l_i l_n l_t), .c (.int .i64 band)], [o0] => (match o0.asInp 2 with | some l => .need ((l_i = 0 ∧ l_n = List.length l) ∧ (i64ok band) ∧ (¬ List.length l = 0) ∧ (F.spE l band = 0)) (.ret (.tup [.c (.own 1 (List.length (F.spots l band))), .c (.int .i64 0)], [.own 2 (F.spots l band) 81])) | none => .fail)
  | _, _ => .fail


theorem spots_sound : Sound Try.prog cod 39 s_spots := sound_runs (cfg := C_sortS) L_sortS_ok mixed Try.func39 rfl rfl _ fun args H r news hg b0 hb => by
  unfold s_spots at hg
  split at hg
  · skip
    split at hg
    · rename_i l hx0
      cases asInp_spec hx0
      simp only [T.gives, T.wp, Prod.mk.injEq] at hg
      obtain ⟨⟨⟨rfl, rfl⟩, q1, q2, q3⟩, rfl, rfl⟩ := hg
      exact spots_run _ _ _ b0 hb (by assumption) (by assumption) (by assumption)
    · exact hg.elim
  · exact hg.elim

noncomputable def L_spots : Sums cod := (39, .p s_spots) :: L_sortS
noncomputable def C_spots : Cfg cod := mkC L_spots

theorem L_spots_ok : Snd Try.prog cod L_spots := .cons spots_sound L_sortS_ok



noncomputable def s_spotsB : Summ cod := fun args H => match args, H with
  | [.c (.slc 0 li ln lt), .c (.int .i64 band)], [o0] => (match o0.asInp 2 with
    | some l => .need ((li = 0 ∧ ln = List.length l) ∧ i64ok band)
          (.ite (decide (F.spE l band = 0)) (.ret (.tup [.c (.own 1 (List.length (F.spots l band))), .c (.int .i64 0)], [.own 2 (F.spots l band) 81])) (.ret (.tup [.c (.own 1 0), .c (.int .i64 (F.spE l band))], [.own 2 [] 81])))
    | none => .fail)
  | _, _ => .fail


theorem spots_all (l : List F.Sp) (l_t : Bool) (band : Int) (b0 : Base) (hb : b0.n = 1) (h64 : i64ok band) (R : SV) (N : Heap cod)
    (hY : F.spE l band = 0 → .tup [.c (.own 1 (List.length (F.spots l band))), .c (.int .i64 0)] = R ∧ [.own 2 (F.spots l band) 81] = N) (hN : F.spE l band ≠ 0 → .tup [.c (.own 1 0), .c (.int .i64 (F.spE l band))] = R ∧ [.own 2 [] 81] = N) :
    Sym.Runs Try.prog b0 [.code (codeOf Try.f39)] ⟨argsS Try.f39 [.c (.slc 0 0 (List.length l) l_t), .c (.int .i64 band)], ([.inp 2 l] : Heap cod)⟩ (Sym.Ends Try.prog Try.f39 1 R N) := by
  by_cases c : l.length = 0
  · have := spots0_run l l_t band b0 hb h64 c
    by_cases e : F.spE l band = 0
    · obtain ⟨rfl, rfl⟩ := hY e
      rw [e] at this
      have hl := List.eq_nil_of_length_eq_zero c
      subst hl
      exact this
    · obtain ⟨rfl, rfl⟩ := hN e
      exact this
  · exact spots_gen l l_t band b0 hb c R N hY hN
theorem spotsB_sound : Sound Try.prog cod 39 s_spotsB := sound_runs (cfg := C_spots) L_spots_ok mixed Try.func39 rfl rfl _ fun args H r news hg b0 hb => by
  unfold s_spotsB at hg
  split at hg
  · skip
    split at hg
    · rename_i l hx0
      cases asInp_spec hx0
      simp only [T.gives, T.wp, Prod.mk.injEq, decide_eq_true_eq] at hg
      obtain ⟨⟨⟨rfl, rfl⟩, h64⟩, g1, g2⟩ := hg
      exact spots_all l _ _ b0 hb h64 r news g1 (fun h => g2 (decide_eq_false h))
    · exact hg.elim
  · exact hg.elim

noncomputable def L_spotsB : Sums cod := (39, .p s_spotsB) :: L_spots
noncomputable def C_spotsB : Cfg cod := mkC L_spotsB

theorem L_spotsB_ok : Snd Try.prog cod L_spotsB := .cons spotsB_sound L_spots_ok


end
end Go.Proofs.Ytbkpgpkeecnjpaa
