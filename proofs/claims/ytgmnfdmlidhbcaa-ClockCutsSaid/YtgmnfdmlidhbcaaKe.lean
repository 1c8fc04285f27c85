/- Part of a claim: lemmas on the way to its theorem; each states its own conditions. -/
import Derived.Test.YtgmnfdmlidhbcaaKd
namespace Go.Proofs.Ytgmnfdmlidhbcaa
open Sym Go.RowKit
noncomputable section
set_option maxRecDepth 100000
set_option maxHeartbeats 4000000



def cuts_vecN : Cuts := []

theorem vecN_t0 (l : List (Int × Int × Int)) (l_t : Bool) : symF C_vecs cuts_vecN Try.f8.results.toList 1 400 [.code (codeOf Try.f8)] ⟨argsS Try.f8 [.c (.slc 0 0 (List.length l) l_t)], ([.inp 1 l] : Heap cod)⟩ =
.need (((0 = 0 ∧ List.length l = List.length l) ∧ List.length l ≤ 1000000)) (
 cond (!decide (F.chk l = 0)) (
 .ret (.fin (.tup [.c (.nil), .c (.int .i64 (F.chk l))]) [])) (
 .need (((0 = 0 ∧ List.length l = List.length l) ∧ F.chk l = 0)) (
 .ret (.fin (.tup [.c (.own 1 (List.length (F.vec l))), .c (.int .i64 0)]) [.nown 0 (F.vec l) [] [] 24 3])))) := by kernel_rfl



theorem vecN_run (l : List (Int × Int × Int)) (l_t : Bool) (b0 : Base) (hb : b0.n = 1) (h0 : l.length ≤ 1000000) (h1 : ¬ F.chk l = 0) : Sym.Runs Try.prog b0 [.code (codeOf Try.f8)] ⟨argsS Try.f8 [.c (.slc 0 0 (List.length l) l_t)], ([.inp 1 l] : Heap cod)⟩ (Sym.Ends Try.prog Try.f8 1 (.tup [.c .nil, .c (.int .i64 (F.chk l))]) []) := by
  refine Runs.go (cfg := C_vecs) L_vecs_ok mixed cuts_vecN 400 hb (vecN_t0 l l_t) ?_
  simp only [T.wp, T.wp_cond, Aft, Int.ofNat_eq_natCast, decide_eq_true_eq, and_true, true_and, Nat.zero_add, Bool.not_eq_true', decide_eq_false_iff_not]
  exact ⟨h0, ite_yes h1 trivial⟩



noncomputable def s_vecN : Summ cod := fun args H => match args, H with
  | [.c (.slc 0 l_i l_n l_t)], [o0] => (match o0.asInp 1 with | some l => .need ((l_i = 0 ∧ l_n = List.length l) ∧ (l.length ≤ 1000000) ∧ (¬ F.chk l = 0)) (.ret (.tup [.c .nil, .c (.int .i64 (F.chk l))], [])) | none => .fail)
  | _, _ => .fail


theorem vecN_sound : Sound Try.prog cod 8 s_vecN := sound_runs (cfg := C_vecs) L_vecs_ok mixed Try.func8 rfl rfl _ fun args H r news hg b0 hb => by
  unfold s_vecN at hg
  split at hg
  · skip
    split at hg
    · rename_i l hx0
      cases asInp_spec hx0
      simp only [T.gives, T.wp, Prod.mk.injEq] at hg
      obtain ⟨⟨⟨rfl, rfl⟩, q1, q2⟩, rfl, rfl⟩ := hg
      exact vecN_run _ _ b0 hb (by assumption) (by assumption)
    · exact hg.elim
  · exact hg.elim

noncomputable def L_vecN : Sums cod := (8, .p s_vecN) :: L_vecs
noncomputable def C_vecN : Cfg cod := mkC L_vecN

theorem L_vecN_ok : Snd Try.prog cod L_vecN := .cons vecN_sound L_vecs_ok



def cuts_vecY : Cuts := []

theorem vecY_t0 (l : List (Int × Int × Int)) (l_t : Bool) : symF C_vecN cuts_vecY Try.f8.results.toList 1 400 [.code (codeOf Try.f8)] ⟨argsS Try.f8 [.c (.slc 0 0 (List.length l) l_t)], ([.inp 1 l] : Heap cod)⟩ =
.need (((0 = 0 ∧ List.length l = List.length l) ∧ List.length l ≤ 1000000)) (
 cond (!decide (F.chk l = 0)) (
 .ret (.fin (.tup [.c (.nil), .c (.int .i64 (F.chk l))]) [])) (
 .need (((0 = 0 ∧ List.length l = List.length l) ∧ F.chk l = 0)) (
 .ret (.fin (.tup [.c (.own 1 (List.length (F.vec l))), .c (.int .i64 0)]) [.nown 0 (F.vec l) [] [] 24 3])))) := by kernel_rfl



theorem vecY_run (l : List (Int × Int × Int)) (l_t : Bool) (b0 : Base) (hb : b0.n = 1) (h0 : l.length ≤ 1000000) (h1 : F.chk l = 0) : Sym.Runs Try.prog b0 [.code (codeOf Try.f8)] ⟨argsS Try.f8 [.c (.slc 0 0 (List.length l) l_t)], ([.inp 1 l] : Heap cod)⟩ (Sym.Ends Try.prog Try.f8 1 (.tup [.c (.own 1 (List.length (F.vec l))), .c (.int .i64 0)]) [.nown 0 (F.vec l) [] [] 24 3]) := by
  refine Runs.go (cfg := C_vecN) L_vecN_ok mixed cuts_vecY 400 hb (vecY_t0 l l_t) ?_
  simp only [T.wp, T.wp_cond, Aft, Int.ofNat_eq_natCast, decide_eq_true_eq, and_true, true_and, Nat.zero_add, Bool.not_eq_true', decide_eq_false_iff_not]
  exact ⟨h0, ite_no (by simpa using h1) h1⟩



noncomputable def s_vecY : Summ cod := fun args H => match args, H with
  | [.c (.slc 0 l_i l_n l_t)], [o0] => (match o0.asInp 1 with | some l => .need ((l_i = 0 ∧ l_n = List.length l) ∧ (l.length ≤ 1000000) ∧ (F.chk l = 0)) (.ret (.tup [.c (.own 1 (List.length (F.vec l))), .c (.int .i64 0)], [.nown 0 (F.vec l) [] [] 24 3])) | none => .fail)
  | _, _ => .fail


theorem vecY_sound : Sound Try.prog cod 8 s_vecY := sound_runs (cfg := C_vecN) L_vecN_ok mixed Try.func8 rfl rfl _ fun args H r news hg b0 hb => by
  unfold s_vecY at hg
  split at hg
  · skip
    split at hg
    · rename_i l hx0
      cases asInp_spec hx0
      simp only [T.gives, T.wp, Prod.mk.injEq] at hg
      obtain ⟨⟨⟨rfl, rfl⟩, q1, q2⟩, rfl, rfl⟩ := hg
      exact vecY_run _ _ b0 hb (by assumption) (by assumption)
    · exact hg.elim
  · exact hg.elim

noncomputable def L_vecY : Sums cod := (8, .p s_vecY) :: L_vecN
noncomputable def C_vecY : Cfg cod := mkC L_vecY

theorem L_vecY_ok : Snd Try.prog cod L_vecY := .cons vecY_sound L_vecN_ok



def s_vecB : Summ cod := fun args H => match args, H with
  | [.c (.slc _ _ _ _)], [o0] => (match o0.asInp 1 with
    | some l => .ite (decide (F.chk l = 0)) (s_vecY args H) (s_vecN args H)
    | none => .fail)
  | _, _ => .fail


theorem vecB_sound : Sound Try.prog cod 8 s_vecB := by
  refine ⟨vecY_sound.enters, fun args H env w vs r news hro G ha hg => ?_⟩
  unfold s_vecB at hg
  split at hg
  · split at hg
    · rename_i l hl
      by_cases c : F.chk l = 0
      · exact vecY_sound.calls _ _ env w vs r news hro G ha (hg.1 (by simp [c]))
      · exact vecN_sound.calls _ _ env w vs r news hro G ha (hg.2 (by simp [c]))
    · exact hg.elim
  · exact hg.elim

noncomputable def L_vecB : Sums cod := (8, .p s_vecB) :: L_vecY
noncomputable def C_vecB : Cfg cod := mkC L_vecB

theorem L_vecB_ok : Snd Try.prog cod L_vecB := .cons vecB_sound L_vecY_ok



namespace F
def befE (l : List Ev) (i k : Int) : Int := if i < 0 ∨ (l.length : Int) ≤ i ∨ k < 0 ∨ (l.length : Int) ≤ k then 8 else 0
def bef (l : List Ev) (i k : Int) : Bool := if befE l i k = 0 then (decide (i ≠ k) && decide (((vec l).getD i.toNat []).getD (l.getD i.toNat ev0).1.toNat 0 ≤ ((vec l).getD k.toNat []).getD (l.getD i.toNat ev0).1.toNat 0)) else false
def conRG (row cut : List Int) : Nat → Nat → Bool
  | 0, _ => true
  | m + 1, s => if max 0 (cut.getD s 0) < row.getD s 0 then false else conRG row cut m (s + 1)
def conG (l : List Ev) (cut : List Int) : Nat → Nat → Bool
  | 0, _ => true
  | m + 1, i => if cut.getD (l.getD i ev0).1.toNat 0 < ((vec l).getD i []).getD (l.getD i ev0).1.toNat 0 then conG l cut m (i + 1)
    else if conRG ((vec l).getD i []) cut 8 0 then conG l cut m (i + 1) else false
def conE (l : List Ev) (cut : List Int) : Int := if chk l = 0 then (if cut.length = 8 then 0 else 1) else chk l
def con (l : List Ev) (cut : List Int) : Bool := if conE l cut = 0 then conG l cut l.length 0 else false
end F


def cuts_bef : Cuts := [(100007, [10, 1, 8, 2], 2)]
def cuts_bef_r7 : Cuts := []
def cuts_bef_r7b : Cuts := []

theorem bef_t0 (l : List (Int × Int × Int)) (l_t : Bool) (i : Int) (k : Int) : symF C_vecB cuts_bef Try.f12.results.toList 1 400 [.code (codeOf Try.f12)] ⟨argsS Try.f12 [.c (.slc 0 0 (List.length l) l_t), .c (.int .i64 i), .c (.int .i64 k)], ([.inp 1 l] : Heap cod)⟩ =
.ite (decide (F.chk l = 0)) (
 .need (((0 = 0 ∧ List.length l = List.length l) ∧ (List.length l ≤ 1000000 ∧ F.chk l = 0))) (
 cond (decide (i < 0)) (
  .ret (.fin (.tup [.c (.bool false), .c (.int .i64 8)]) [])) (
  cond (decide (Int.ofNat (List.length l) ≤ i)) (
   .ret (.fin (.tup [.c (.bool false), .c (.int .i64 8)]) [])) (
   cond (decide (k < 0)) (
    .ret (.fin (.tup [.c (.bool false), .c (.int .i64 8)]) [])) (
    cond (decide (Int.ofNat (List.length l) ≤ k)) (
     .ret (.fin (.tup [.c (.bool false), .c (.int .i64 8)]) [])) (
     .need (((0 : Int) ≤ i ∧ i < Int.ofNat (List.length l))) (
     .need (0 + Int.toNat i < List.length l) (
     .ret (.cut (regAt Try.f12 7) ⟨tmG 51 [(1, .c (.int .i64 i)), (0, .c (.int .i64 k)), (5, .c (.own 1 (List.length (F.vec l)))), (1, .c (.int .i64 ((List.getD l (0 + Int.toNat i) (cod 1).d).1)))], [.inp 1 l, .nown 0 (F.vec l) [] [] 24 3]⟩))))))))) (
 .need (((0 = 0 ∧ List.length l = List.length l) ∧ (List.length l ≤ 1000000 ∧ ¬F.chk l = 0))) (
 cond (!decide (F.chk l = 0)) (
  .ret (.fin (.tup [.c (.bool false), .c (.int .i64 (F.chk l))]) [])) (
  cond (decide (i < 0)) (
   .ret (.fin (.tup [.c (.bool false), .c (.int .i64 8)]) [])) (
   cond (decide (Int.ofNat (List.length l) ≤ i)) (
    .ret (.fin (.tup [.c (.bool false), .c (.int .i64 8)]) [])) (
    cond (decide (k < 0)) (
     .ret (.fin (.tup [.c (.bool false), .c (.int .i64 8)]) [])) (
     cond (decide (Int.ofNat (List.length l) ≤ k)) (
      .ret (.fin (.tup [.c (.bool false), .c (.int .i64 8)]) [])) (
      .need (((0 : Int) ≤ i ∧ i < Int.ofNat (List.length l))) (
      .need (0 + Int.toNat i < List.length l) (
      .ret (.cut (regAt Try.f12 7) ⟨tmG 51 [(1, .c (.int .i64 i)), (0, .c (.int .i64 k)), (5, .c (.nil)), (1, .c (.int .i64 ((List.getD l (0 + Int.toNat i) (cod 1).d).1)))], [.inp 1 l]⟩)))))))))) := by kernel_rfl


noncomputable def st_bef_r7 (l : List (Int × Int × Int)) (l_t : Bool) (i : Int) (k : Int) (s : Int) (V : List (List Int)) : St cod := ⟨tmG 51 [(1, .c (.int .i64 i)), (0, .c (.int .i64 k)), (5, .c (.own 1 (List.length V))), (1, .c (.int .i64 s))], ([.inp 1 l, .nown 0 V [] [] 24 3] : Heap cod)⟩


theorem bef_tr7 (l : List (Int × Int × Int)) (l_t : Bool) (i : Int) (k : Int) (s : Int) (V : List (List Int)) : symF C_vecB cuts_bef_r7 Try.f12.results.toList 1 400 (regAt Try.f12 7) (st_bef_r7 l l_t i k s V) =
 cond (!decide (i = k)) (
 .need (((0 : Int) ≤ k ∧ k < Int.ofNat (List.length V))) (
 .fail)) (
 .ret (.fin (.tup [.c (.bool false), .c (.int .i64 0)]) [])) := by kernel_rfl


noncomputable def st_bef_r7b (l : List (Int × Int × Int)) (l_t : Bool) (i : Int) (k : Int) (s : Int) (V : List (List Int)) (u v : Nat) (ru rv : List Int) : St cod := ⟨tmG 51 [(1, .c (.int .i64 i)), (0, .c (.int .i64 k)), (5, .c (.own 1 (List.length V))), (1, .c (.int .i64 s))], ([.inp 1 l, .nown 0 V [v, u] [.own 3 (List.length rv), .own 2 (List.length ru)] 24 3, .own 0 ru 3, .own 0 rv 3] : Heap cod)⟩


theorem bef_tr7b (l : List (Int × Int × Int)) (l_t : Bool) (i : Int) (k : Int) (s : Int) (V : List (List Int)) (u v : Nat) (ru rv : List Int) : symF C_vecB cuts_bef_r7b Try.f12.results.toList 1 400 (regAt Try.f12 7) (st_bef_r7b l l_t i k s V u v ru rv) =
 cond (!decide (i = k)) (
 .need (((0 : Int) ≤ k ∧ k < Int.ofNat (List.length V))) (
 .ite (decide (0 + Int.toNat k = v)) (
  .need (v < List.length V) (
  .need (((0 : Int) ≤ s ∧ s < Int.ofNat (List.length rv))) (
  .need (0 + Int.toNat s < List.length rv) (
  .need (((0 : Int) ≤ i ∧ i < Int.ofNat (List.length V))) (
  .ite (decide (0 + Int.toNat i = v)) (
   .need (v < List.length V) (
   .need (((0 : Int) ≤ s ∧ s < Int.ofNat (List.length rv))) (
   .need (0 + Int.toNat s < List.length rv) (
   .ret (.fin (.tup [.c (.bool (decide (List.getD rv (0 + Int.toNat s) (cod 0).d ≤ List.getD rv (0 + Int.toNat s) (cod 0).d))), .c (.int .i64 0)]) []))))) (
   .need ((0 + Int.toNat i = u ∧ u < List.length V)) (
   .need (((0 : Int) ≤ s ∧ s < Int.ofNat (List.length ru))) (
   .need (0 + Int.toNat s < List.length ru) (
   .ret (.fin (.tup [.c (.bool (decide (List.getD ru (0 + Int.toNat s) (cod 0).d ≤ List.getD rv (0 + Int.toNat s) (cod 0).d))), .c (.int .i64 0)]) [])))))))))) (
  .need ((0 + Int.toNat k = u ∧ u < List.length V)) (
  .need (((0 : Int) ≤ s ∧ s < Int.ofNat (List.length ru))) (
  .need (0 + Int.toNat s < List.length ru) (
  .need (((0 : Int) ≤ i ∧ i < Int.ofNat (List.length V))) (
  .ite (decide (0 + Int.toNat i = v)) (
   .need (v < List.length V) (
   .need (((0 : Int) ≤ s ∧ s < Int.ofNat (List.length rv))) (
   .need (0 + Int.toNat s < List.length rv) (
   .ret (.fin (.tup [.c (.bool (decide (List.getD rv (0 + Int.toNat s) (cod 0).d ≤ List.getD ru (0 + Int.toNat s) (cod 0).d))), .c (.int .i64 0)]) []))))) (
   .need ((0 + Int.toNat i = u ∧ u < List.length V)) (
   .need (((0 : Int) ≤ s ∧ s < Int.ofNat (List.length ru))) (
   .need (0 + Int.toNat s < List.length ru) (
   .ret (.fin (.tup [.c (.bool (decide (List.getD ru (0 + Int.toNat s) (cod 0).d ≤ List.getD ru (0 + Int.toNat s) (cod 0).d))), .c (.int .i64 0)]) [])))))))))))) (
 .ret (.fin (.tup [.c (.bool false), .c (.int .i64 0)]) [])) := by kernel_rfl



theorem bef_run (l : List (Int × Int × Int)) (l_t : Bool) (i : Int) (k : Int) (b0 : Base) (hb : b0.n = 1) (h0 : F.chk l = 0) : Sym.Runs Try.prog b0 [.code (codeOf Try.f12)] ⟨argsS Try.f12 [.c (.slc 0 0 (List.length l) l_t), .c (.int .i64 i), .c (.int .i64 k)], ([.inp 1 l] : Heap cod)⟩ (Sym.Ends Try.prog Try.f12 1 (.tup [.c (.bool (F.bef l i k)), .c (.int .i64 (F.befE l i k))]) []) := by
  obtain ⟨hlen, hE⟩ := F.chk_ok h0
  refine Runs.go (cfg := C_vecB) L_vecB_ok mixed cuts_bef 400 hb (bef_t0 l l_t i k) ?_
  by_cases hr : i < 0 ∨ (l.length : Int) ≤ i ∨ k < 0 ∨ (l.length : Int) ≤ k
  · have e8 : F.befE l i k = 8 := if_pos hr
    have eb : F.bef l i k = false := by unfold F.bef; rw [e8]; rfl
    rw [e8, eb]
    simp only [T.wp, T.wp_cond, Aft, Int.ofNat_eq_natCast, decide_eq_true_eq, and_true, true_and, Nat.zero_add, Bool.not_eq_true', decide_eq_false_iff_not, Nat.zero_add]
    refine ⟨fun _ => ⟨⟨by omega, h0⟩, ?_⟩, fun h => absurd h0 (by simpa using h)⟩
    repeat' first | (refine F.ite_both (fun _ => ?_) (fun _ => ?_)) | trivial
    omega
  · have e0 : F.befE l i k = 0 := if_neg hr
    have hi : 0 ≤ i ∧ i < (l.length : Int) := by omega
    have hk : 0 ≤ k ∧ k < (l.length : Int) := by omega
    have eb : F.bef l i k = (decide (i ≠ k) && decide (((F.vec l).getD i.toNat []).getD (l.getD i.toNat F.ev0).1.toNat 0 ≤ ((F.vec l).getD k.toNat []).getD (l.getD i.toNat F.ev0).1.toNat 0)) := by unfold F.bef; rw [if_pos e0]
    rw [e0, eb]
    have hs := (F.chkE_ok (hE i.toNat (by omega))).1
    obtain ⟨_, b2, b3, _, _⟩ := F.vec_bound h0 l.length (Nat.le_refl _)
    have ed : (cod 1).d = F.ev0 := rfl
    simp only [T.wp, T.wp_cond, Aft, Int.ofNat_eq_natCast, decide_eq_true_eq, and_true, true_and, Nat.zero_add, Bool.not_eq_true', decide_eq_false_iff_not, Nat.zero_add, ed]
    have eV : F.vec l = (F.vecG l l.length).2 := rfl
    rw [eV]
    generalize (F.vecG l l.length).2 = V at *
    generalize (l.getD i.toNat F.ev0).1 = s at *
    refine ⟨fun _ => ⟨⟨by omega, h0⟩, ?_⟩, fun h => absurd h0 (by simpa using h)⟩
    refine ite_no (by omega) (ite_no (by omega) (ite_no (by omega) (ite_no (by omega) ⟨hi, by omega, ?_⟩)))
    by_cases eik : i = k
    · refine Runs.go (cfg := C_vecB) L_vecB_ok mixed cuts_bef_r7 400 hb (bef_tr7 l l_t i k s V) ?_
      simp only [T.wp, T.wp_cond, Aft, Int.ofNat_eq_natCast, decide_eq_true_eq, and_true, true_and, Nat.zero_add, Bool.not_eq_true', decide_eq_false_iff_not, Nat.zero_add]
      refine ite_no (by simpa using eik) ?_
      simp [eik]
    · have hri : (V.getD i.toNat []).length = 8 := b3 _ (by omega)
      have hrk : (V.getD k.toNat []).length = 8 := b3 _ (by omega)
      have hvi : i.toNat < V.length := by omega
      have hvk : k.toNat < V.length := by omega
      have hne : ¬ i.toNat = k.toNat := by omega
      have hne' : ¬ k.toNat = i.toNat := by omega
      refine Runs.openW 1 k.toNat (t := 0) (LL := V) (js := []) (cs := []) (ty := 24) (tyr := 3) rfl hvk List.not_mem_nil rfl ?_
      refine Runs.openW 1 i.toNat (t := 0) (LL := V) (js := [k.toNat]) (cs := [.own 2 (List.length (V.getD k.toNat []))]) (ty := 24) (tyr := 3) rfl hvi (by simpa using hne) (st' := st_bef_r7b l l_t i k s V k.toNat i.toNat (V.getD k.toNat []) (V.getD i.toNat [])) rfl ?_
      refine Runs.go (cfg := C_vecB) L_vecB_ok mixed cuts_bef_r7b 400 hb (bef_tr7b l l_t i k s V k.toNat i.toNat (V.getD k.toNat []) (V.getD i.toNat [])) ?_
      have ez : (cod 0).d = (0 : Int) := rfl
      simp only [T.wp, T.wp_cond, Aft, Int.ofNat_eq_natCast, decide_eq_true_eq, and_true, true_and, Nat.zero_add, Bool.not_eq_true', decide_eq_false_iff_not, Nat.zero_add, ez]
      refine ite_yes (by simpa using eik) ⟨⟨by omega, by omega⟩, ⟨fun h => absurd h hne', fun _ => ⟨by omega, ⟨by omega, by omega⟩, by omega, ⟨by omega, by omega⟩, ⟨fun _ => ⟨by omega, ⟨by omega, by omega⟩, by omega, ?_⟩, fun h => absurd trivial h⟩⟩⟩⟩
      simp [eik]



noncomputable def s_bef : Summ cod := fun args H => match args, H with
  | [.c (.slc 0 l_i l_n l_t), .c (.int .i64 i), .c (.int .i64 k)], [o0] => (match o0.asInp 1 with | some l => .need ((l_i = 0 ∧ l_n = List.length l) ∧ (F.chk l = 0)) (.ret (.tup [.c (.bool (F.bef l i k)), .c (.int .i64 (F.befE l i k))], [])) | none => .fail)
  | _, _ => .fail


theorem bef_sound : Sound Try.prog cod 12 s_bef := sound_runs (cfg := C_vecB) L_vecB_ok mixed Try.func12 rfl rfl _ fun args H r news hg b0 hb => by
  unfold s_bef at hg
  split at hg
  · skip
    split at hg
    · rename_i l hx0
      cases asInp_spec hx0
      simp only [T.gives, T.wp, Prod.mk.injEq] at hg
      obtain ⟨⟨⟨rfl, rfl⟩, q1⟩, rfl, rfl⟩ := hg
      exact bef_run _ _ _ _ b0 hb (by assumption)
    · exact hg.elim
  · exact hg.elim

noncomputable def L_bef : Sums cod := (12, .p s_bef) :: L_vecB
noncomputable def C_bef : Cfg cod := mkC L_bef

theorem L_bef_ok : Snd Try.prog cod L_bef := .cons bef_sound L_vecB_ok



def cuts_con : Cuts := [(7, [1, 6, 23, 24, 25], 3), (100009, [1, 6, 23, 24, 25, 8, 9], 5), (11, [1, 47, 6, 23, 24, 25, 48, 49], 5), (100016, [1, 6, 23, 24, 25], 5)]
def cuts_con_r9 : Cuts := [(7, [1, 6, 23, 24, 25], 3), (11, [1, 47, 6, 23, 24, 25, 48, 49], 5), (100016, [1, 6, 23, 24, 25], 5)]
def cuts_con_r9b : Cuts := [(7, [1, 6, 23, 24, 25], 3), (11, [1, 47, 6, 23, 24, 25, 48, 49], 5), (100016, [1, 6, 23, 24, 25], 5)]
def cuts_con_r16 : Cuts := [(7, [1, 6, 23, 24, 25], 3), (100009, [1, 6, 23, 24, 25, 8, 9], 5), (11, [1, 47, 6, 23, 24, 25, 48, 49], 5)]

theorem con_t0 (l : List (Int × Int × Int)) (l_t : Bool) (c : List Int) (c_t : Bool) : symF C_bef cuts_con Try.f15.results.toList 2 400 [.code (codeOf Try.f15)] ⟨argsS Try.f15 [.c (.slc 0 0 (List.length l) l_t), .c (.slc 1 0 (List.length c) c_t)], ([.inp 1 l, .inp 0 c] : Heap cod)⟩ =
.ite (decide (F.chk l = 0)) (
 .need (((0 = 0 ∧ List.length l = List.length l) ∧ (List.length l ≤ 1000000 ∧ F.chk l = 0))) (
 cond (!decide (Int.ofNat (List.length c) = 8)) (
  .ret (.fin (.tup [.c (.bool false), .c (.int .i64 1)]) [])) (
  .ret (.cut (cutAt Try.f15 7) ⟨tmG 37 [(1, .c (.slc 1 0 (List.length c) c_t)), (4, .c (.own 2 (List.length (F.vec l)))), (16, .c (.slc 0 0 (List.length l) l_t)), (0, .c (.int .i64 (Int.ofNat (List.length l)))), (0, .c (.int .i64 0))], [.inp 1 l, .inp 0 c, .nown 0 (F.vec l) [] [] 24 3]⟩)))) (
 .need (((0 = 0 ∧ List.length l = List.length l) ∧ (List.length l ≤ 1000000 ∧ ¬F.chk l = 0))) (
 cond (!decide (F.chk l = 0)) (
  .ret (.fin (.tup [.c (.bool false), .c (.int .i64 (F.chk l))]) [])) (
  cond (!decide (Int.ofNat (List.length c) = 8)) (
   .ret (.fin (.tup [.c (.bool false), .c (.int .i64 1)]) [])) (
   .ret (.cut (cutAt Try.f15 7) ⟨tmG 37 [(1, .c (.slc 1 0 (List.length c) c_t)), (4, .c (.nil)), (16, .c (.slc 0 0 (List.length l) l_t)), (0, .c (.int .i64 (Int.ofNat (List.length l)))), (0, .c (.int .i64 0))], [.inp 1 l, .inp 0 c]⟩))))) := by kernel_rfl


noncomputable def st_con_7 (l : List (Int × Int × Int)) (l_t : Bool) (c : List Int) (c_t : Bool) (i : Int) (V : List (List Int)) : St cod := ⟨tmG 37 [(1, .c (.slc 1 0 (List.length c) c_t)), (4, .c (.own 2 (List.length V))), (16, .c (.slc 0 0 (List.length l) l_t)), (0, .c (.int .i64 (Int.ofNat (List.length l)))), (0, .c (.int .i64 i))], ([.inp 1 l, .inp 0 c, .nown 0 V [] [] 24 3] : Heap cod)⟩


theorem con_t7 (l : List (Int × Int × Int)) (l_t : Bool) (c : List Int) (c_t : Bool) (i : Int) (V : List (List Int)) : symF C_bef cuts_con Try.f15.results.toList 2 400 (cutAt Try.f15 7) (st_con_7 l l_t c c_t i V) =
 cond (decide (i < Int.ofNat (List.length l))) (
 .need (((0 : Int) ≤ i ∧ i < Int.ofNat (List.length l))) (
 .need (0 + Int.toNat i < List.length l) (
 .ret (.cut (regAt Try.f15 9) ⟨tmG 37 [(1, .c (.slc 1 0 (List.length c) c_t)), (4, .c (.own 2 (List.length V))), (1, .c (.int .i64 i)), (0, .c (.ptr 3 0 0)), (13, .c (.slc 0 0 (List.length l) l_t)), (0, .c (.int .i64 (Int.ofNat (List.length l)))), (0, .c (.int .i64 i))], [.inp 1 l, .inp 0 c, .nown 0 (V) [] [] 24 3, .blk [.int .i64 ((List.getD l (0 + Int.toNat i) (cod 1).d).1), .int .i64 ((List.getD l (0 + Int.toNat i) (cod 1).d).2.1), .int .i64 ((List.getD l (0 + Int.toNat i) (cod 1).d).2.2)] 37]⟩)))) (
 .ret (.fin (.tup [.c (.bool true), .c (.int .i64 0)]) [])) := by kernel_rfl


noncomputable def st_con_r9 (l : List (Int × Int × Int)) (l_t : Bool) (c : List Int) (c_t : Bool) (i : Int) (V : List (List Int)) (a1 a2 a3 : Int) : St cod := ⟨tmG 37 [(1, .c (.slc 1 0 (List.length c) c_t)), (4, .c (.own 2 (List.length V))), (1, .c (.int .i64 i)), (0, .c (.ptr 3 0 0)), (13, .c (.slc 0 0 (List.length l) l_t)), (0, .c (.int .i64 (Int.ofNat (List.length l)))), (0, .c (.int .i64 i))], ([.inp 1 l, .inp 0 c, .nown 0 V [] [] 24 3, .blk [.int .i64 a1, .int .i64 a2, .int .i64 a3] 37] : Heap cod)⟩


theorem con_tr9 (l : List (Int × Int × Int)) (l_t : Bool) (c : List Int) (c_t : Bool) (i : Int) (V : List (List Int)) (a1 a2 a3 : Int) : symF C_bef cuts_con_r9 Try.f15.results.toList 2 400 (regAt Try.f15 9) (st_con_r9 l l_t c c_t i V a1 a2 a3) =
.need (((0 : Int) ≤ i ∧ i < Int.ofNat (List.length V))) (
.fail) := by kernel_rfl


noncomputable def st_con_r9b (l : List (Int × Int × Int)) (l_t : Bool) (c : List Int) (c_t : Bool) (i : Int) (V : List (List Int)) (a1 a2 a3 : Int) (r : List Int) (j : Nat) : St cod := ⟨tmG 37 [(1, .c (.slc 1 0 (List.length c) c_t)), (4, .c (.own 2 (List.length V))), (1, .c (.int .i64 i)), (0, .c (.ptr 3 0 0)), (13, .c (.slc 0 0 (List.length l) l_t)), (0, .c (.int .i64 (Int.ofNat (List.length l)))), (0, .c (.int .i64 i))], ([.inp 1 l, .inp 0 c, .nown 0 V [j] [.own 4 (List.length r)] 24 3, .blk [.int .i64 a1, .int .i64 a2, .int .i64 a3] 37, .own 0 r 3] : Heap cod)⟩


theorem con_tr9b (l : List (Int × Int × Int)) (l_t : Bool) (c : List Int) (c_t : Bool) (i : Int) (V : List (List Int)) (a1 a2 a3 : Int) (r : List Int) (j : Nat) : symF C_bef cuts_con_r9b Try.f15.results.toList 2 400 (regAt Try.f15 9) (st_con_r9b l l_t c c_t i V a1 a2 a3 r j) =
.need (((0 : Int) ≤ i ∧ i < Int.ofNat (List.length V))) (
.need ((0 + Int.toNat i = j ∧ j < List.length V)) (
.need (((0 : Int) ≤ a1 ∧ a1 < Int.ofNat (List.length r))) (
.need (0 + Int.toNat a1 < List.length r) (
.need (((0 : Int) ≤ a1 ∧ a1 < Int.ofNat (List.length c))) (
.need (0 + Int.toNat a1 < List.length c) (
 cond (decide (List.getD c (0 + Int.toNat a1) (cod 0).d < List.getD r (0 + Int.toNat a1) (cod 0).d)) (
 .ret (.cut (regAt Try.f15 16) ⟨tmG 37 [(1, .c (.slc 1 0 (List.length c) c_t)), (4, .c (.own 2 (List.length V))), (16, .c (.slc 0 0 (List.length l) l_t)), (0, .c (.int .i64 (Int.ofNat (List.length l)))), (0, .c (.int .i64 i))], [.inp 1 l, .inp 0 c, .nown 0 (V) [(j)] [.own 4 (List.length r)] 24 3, .blk [.int .i64 a1, .int .i64 a2, .int .i64 a3] 37, .own 0 r 3]⟩)) (
 .need (((0 : Int) ≤ i ∧ i < Int.ofNat (List.length V))) (
 .need ((0 + Int.toNat i = j ∧ j < List.length V)) (
 .ret (.cut (cutAt Try.f15 11) ⟨tmG 13 [(1, .c (.slc 1 0 (List.length c) c_t)), (4, .c (.own 2 (List.length V))), (16, .c (.slc 0 0 (List.length l) l_t)), (0, .c (.int .i64 (Int.ofNat (List.length l)))), (0, .c (.int .i64 i)), (21, .c (.own 4 (List.length r))), (0, .c (.int .i64 (Int.ofNat (List.length r)))), (0, .c (.int .i64 0))], [.inp 1 l, .inp 0 c, .nown 0 (V) [(j)] [.own 4 (List.length r)] 24 3, .blk [.int .i64 a1, .int .i64 a2, .int .i64 a3] 37, .own 0 r 3]⟩)))))))))) := by kernel_rfl


noncomputable def st_con_11 (l : List (Int × Int × Int)) (l_t : Bool) (c : List Int) (c_t : Bool) (i : Int) (V : List (List Int)) (a1 a2 a3 : Int) (r : List Int) (j : Nat) (s : Int) : St cod := ⟨tmG 13 [(1, .c (.slc 1 0 (List.length c) c_t)), (4, .c (.own 2 (List.length V))), (16, .c (.slc 0 0 (List.length l) l_t)), (0, .c (.int .i64 (Int.ofNat (List.length l)))), (0, .c (.int .i64 i)), (21, .c (.own 4 (List.length r))), (0, .c (.int .i64 (List.length r))), (0, .c (.int .i64 s))], ([.inp 1 l, .inp 0 c, .nown 0 V [j] [.own 4 (List.length r)] 24 3, .blk [.int .i64 a1, .int .i64 a2, .int .i64 a3] 37, .own 0 r 3] : Heap cod)⟩


theorem con_t11 (l : List (Int × Int × Int)) (l_t : Bool) (c : List Int) (c_t : Bool) (i : Int) (V : List (List Int)) (a1 a2 a3 : Int) (r : List Int) (j : Nat) (s : Int) : symF C_bef cuts_con Try.f15.results.toList 2 400 (cutAt Try.f15 11) (st_con_11 l l_t c c_t i V a1 a2 a3 r j s) =
 cond (decide (s < Int.ofNat (List.length r))) (
 .need (((0 : Int) ≤ s ∧ s < Int.ofNat (List.length r))) (
 .need (0 + Int.toNat s < List.length r) (
 .need (((0 : Int) ≤ s ∧ s < Int.ofNat (List.length c))) (
 .need (0 + Int.toNat s < List.length c) (
 cond (decide (max 0 (List.getD c (0 + Int.toNat s) (cod 0).d) < List.getD r (0 + Int.toNat s) (cod 0).d)) (
  .ret (.fin (.tup [.c (.bool false), .c (.int .i64 0)]) [])) (
  .need (i64ok (s + 1)) (
  .ret (.cut (cutAt Try.f15 11) ⟨tmG 13 [(1, .c (.slc 1 0 (List.length c) c_t)), (4, .c (.own 2 (List.length V))), (16, .c (.slc 0 0 (List.length l) l_t)), (0, .c (.int .i64 (Int.ofNat (List.length l)))), (0, .c (.int .i64 i)), (21, .c (.own 4 (List.length r))), (0, .c (.int .i64 (Int.ofNat (List.length r)))), (0, .c (.int .i64 (s + 1)))], [.inp 1 l, .inp 0 c, .nown 0 (V) [(j)] [.own 4 (List.length r)] 24 3, .blk [.int .i64 a1, .int .i64 a2, .int .i64 a3] 37, .own 0 r 3]⟩)))))))) (
 .ret (.cut (regAt Try.f15 16) ⟨tmG 37 [(1, .c (.slc 1 0 (List.length c) c_t)), (4, .c (.own 2 (List.length V))), (16, .c (.slc 0 0 (List.length l) l_t)), (0, .c (.int .i64 (Int.ofNat (List.length l)))), (0, .c (.int .i64 i))], [.inp 1 l, .inp 0 c, .nown 0 (V) [(j)] [.own 4 (List.length r)] 24 3, .blk [.int .i64 a1, .int .i64 a2, .int .i64 a3] 37, .own 0 r 3]⟩)) := by kernel_rfl


noncomputable def st_con_r16 (l : List (Int × Int × Int)) (l_t : Bool) (c : List Int) (c_t : Bool) (i : Int) (V : List (List Int)) : St cod := ⟨tmG 37 [(1, .c (.slc 1 0 (List.length c) c_t)), (4, .c (.own 2 (List.length V))), (16, .c (.slc 0 0 (List.length l) l_t)), (0, .c (.int .i64 (Int.ofNat (List.length l)))), (0, .c (.int .i64 i))], ([.inp 1 l, .inp 0 c, .nown 0 V [] [] 24 3] : Heap cod)⟩


theorem con_tr16 (l : List (Int × Int × Int)) (l_t : Bool) (c : List Int) (c_t : Bool) (i : Int) (V : List (List Int)) : symF C_bef cuts_con_r16 Try.f15.results.toList 2 400 (regAt Try.f15 16) (st_con_r16 l l_t c c_t i V) =
.need (i64ok (i + 1)) (
.ret (.cut (cutAt Try.f15 7) ⟨tmG 37 [(1, .c (.slc 1 0 (List.length c) c_t)), (4, .c (.own 2 (List.length V))), (16, .c (.slc 0 0 (List.length l) l_t)), (0, .c (.int .i64 (Int.ofNat (List.length l)))), (0, .c (.int .i64 (i + 1)))], [.inp 1 l, .inp 0 c, .nown 0 (V) [] [] 24 3]⟩)) := by kernel_rfl



theorem con_run (l : List (Int × Int × Int)) (l_t : Bool) (c : List Int) (c_t : Bool) (b0 : Base) (hb : b0.n = 2) (h0 : l.length ≤ 1000000) : Sym.Runs Try.prog b0 [.code (codeOf Try.f15)] ⟨argsS Try.f15 [.c (.slc 0 0 (List.length l) l_t), .c (.slc 1 0 (List.length c) c_t)], ([.inp 1 l, .inp 0 c] : Heap cod)⟩ (Sym.Ends Try.prog Try.f15 2 (.tup [.c (.bool (F.con l c)), .c (.int .i64 (F.conE l c))]) []) := by
  by_cases hc : ¬ F.chk l = 0
  · refine Runs.go (cfg := C_bef) L_bef_ok mixed cuts_con 400 hb (con_t0 l l_t c c_t) ?_
    have eE : F.conE l c = F.chk l := by unfold F.conE; rw [if_neg hc]
    have eC : F.con l c = false := by unfold F.con; rw [if_neg (by rw [eE]; exact hc)]
    rw [eE, eC]
    simp only [T.wp, T.wp_cond, Aft, Int.ofNat_eq_natCast, decide_eq_true_eq, and_true, true_and, Nat.zero_add, Bool.not_eq_true', decide_eq_false_iff_not]
    exact ⟨fun h => absurd h hc, fun _ => ⟨⟨h0, hc⟩, ite_yes hc trivial⟩⟩
  have hc : F.chk l = 0 := Decidable.not_not.1 hc
  obtain ⟨hlen, hE⟩ := F.chk_ok hc
  refine Runs.go (cfg := C_bef) L_bef_ok mixed cuts_con 400 hb (con_t0 l l_t c c_t) ?_
  by_cases h8 : ¬ c.length = 8
  · have eE : F.conE l c = 1 := by unfold F.conE; rw [if_pos hc, if_neg h8]
    have eC : F.con l c = false := by unfold F.con; rw [if_neg (by rw [eE]; decide)]
    rw [eE, eC]
    simp only [T.wp, T.wp_cond, Aft, Int.ofNat_eq_natCast, decide_eq_true_eq, and_true, true_and, Nat.zero_add, Bool.not_eq_true', decide_eq_false_iff_not]
    exact ⟨fun _ => ⟨⟨h0, hc⟩, ite_yes (by omega) trivial⟩, fun h => absurd hc (by simpa using h)⟩
  have h8 : c.length = 8 := Decidable.not_not.1 h8
  have eE : F.conE l c = 0 := by unfold F.conE; rw [if_pos hc, if_pos h8]
  have eC : F.con l c = F.conG l c l.length 0 := by unfold F.con; rw [if_pos eE]
  rw [eE]
  obtain ⟨_, b2, b3, _, _⟩ := F.vec_bound hc l.length (Nat.le_refl _)
  have eV : F.vec l = (F.vecG l l.length).2 := rfl
  have key : ∀ (r n : Nat), n + r = l.length → F.con l c = F.conG l c r n → Sym.Runs Try.prog b0 (cutAt Try.f15 7) (st_con_7 l l_t c c_t (n : Int) (F.vec l)) (Sym.Ends Try.prog Try.f15 2 (.tup [.c (.bool (F.con l c)), .c (.int .i64 0)]) []) := by
    intro r
    induction r with
    | zero =>
      intro n hn hR
      refine Runs.go (cfg := C_bef) L_bef_ok mixed cuts_con 400 hb (con_t7 l l_t c c_t (n : Int) (F.vec l)) ?_
      simp only [T.wp, T.wp_cond, Aft, Int.ofNat_eq_natCast, decide_eq_true_eq, and_true, true_and, Nat.zero_add, Bool.not_eq_true', decide_eq_false_iff_not]
      refine ite_no (by omega) ?_
      rw [hR]
      rfl
    | succ r ih =>
      intro n hn hR
      have nx := ih (n + 1) (by omega)
      obtain ⟨k1, _, _, _⟩ := F.chkE_ok (hE n (by omega))
      refine Runs.go (cfg := C_bef) L_bef_ok mixed cuts_con 400 hb (con_t7 l l_t c c_t (n : Int) (F.vec l)) ?_
      have ed : (cod 1).d = F.ev0 := rfl
      have ez : (cod 0).d = (0 : Int) := rfl
      simp only [T.wp, T.wp_cond, Aft, Int.ofNat_eq_natCast, decide_eq_true_eq, and_true, true_and, Nat.zero_add, Bool.not_eq_true', decide_eq_false_iff_not, Nat.zero_add, Int.toNat_natCast, ed]
      rw [F.conG] at hR
      have hrow : ((F.vec l).getD n []).length = 8 := by rw [eV]; exact b3 _ (by omega)
      have hVl : (F.vec l).length = l.length := by rw [eV, b2]
      generalize l.getD n F.ev0 = p at *
      generalize F.vec l = V at *
      generalize eR : V.getD n [] = R at *
      have hnV : n < V.length := by omega
      refine ite_yes (by omega) ⟨⟨by omega, by omega⟩, by omega, ?_⟩
      refine Runs.openW 2 n (t := 0) (LL := V) (js := []) (cs := []) (ty := 24) (tyr := 3) rfl hnV List.not_mem_nil (st' := st_con_r9b l l_t c c_t (n : Int) V p.1 p.2.1 p.2.2 R n) (by rw [← eR]; rfl) ?_
      have close : F.con l c = F.conG l c r (n + 1) → Sym.Runs Try.prog b0 (regAt Try.f15 16) ⟨tmG 37 [(1, .c (.slc 1 0 (List.length c) c_t)), (4, .c (.own 2 (List.length V))), (16, .c (.slc 0 0 (List.length l) l_t)), (0, .c (.int .i64 (Int.ofNat (List.length l)))), (0, .c (.int .i64 (n : Int)))], ([.inp 1 l, .inp 0 c, .nown 0 (V) [n] [.own 4 (List.length R)] 24 3, .blk [.int .i64 p.1, .int .i64 p.2.1, .int .i64 p.2.2] 37, .own 0 R 3] : Heap cod)⟩ (Sym.Ends Try.prog Try.f15 2 (.tup [.c (.bool (F.con l c)), .c (.int .i64 0)]) []) := by
        intro hR2
        refine Runs.closeW 2 (j := n) (r := 4) (N := 2) hb (t := 0) (LL := V) (js := []) (c := .own 4 (List.length R)) (cs := []) (ty := 24) (tyr := 3) (l := R) rfl hnV List.not_mem_nil rfl (by omega) (by omega) (st' := ⟨tmG 37 [(1, .c (.slc 1 0 (List.length c) c_t)), (4, .c (.own 2 (List.length V))), (16, .c (.slc 0 0 (List.length l) l_t)), (0, .c (.int .i64 (Int.ofNat (List.length l)))), (0, .c (.int .i64 (n : Int)))], ([.inp 1 l, .inp 0 c, .nown 0 (V.set n R) [] [] 24 3, .blk [.int .i64 p.1, .int .i64 p.2.1, .int .i64 p.2.2] 37, .dead] : Heap cod)⟩) rfl ?_
        rw [← eR, F.set_same]
        refine Runs.weaken (st' := st_con_r16 l l_t c c_t (n : Int) V) (fun a w hR => ?_) ?_
        · exact fit_rel [1, 6, 23, 24, 25] 3 (by omega) hR
        · refine Runs.go (cfg := C_bef) L_bef_ok mixed cuts_con_r16 400 hb (con_tr16 l l_t c c_t (n : Int) V) ?_
          simp only [T.wp, T.wp_cond, Aft, Int.ofNat_eq_natCast, decide_eq_true_eq, and_true, true_and, Nat.zero_add, Bool.not_eq_true', decide_eq_false_iff_not]
          rw [Int.natCast_succ] at nx
          exact ⟨by unfold Sym.i64ok; omega, nx hR2⟩
      refine Runs.go (cfg := C_bef) L_bef_ok mixed cuts_con_r9b 400 hb (con_tr9b l l_t c c_t (n : Int) V p.1 p.2.1 p.2.2 R n) ?_
      simp only [T.wp, T.wp_cond, Aft, Int.ofNat_eq_natCast, decide_eq_true_eq, and_true, true_and, Nat.zero_add, Bool.not_eq_true', decide_eq_false_iff_not, Nat.zero_add, Int.toNat_natCast, ez]
      refine ⟨⟨by omega, by omega⟩, by omega, ⟨k1.1, by omega⟩, by omega, ⟨k1.1, by omega⟩, by omega, ?_⟩
      by_cases q : c.getD p.1.toNat 0 < R.getD p.1.toNat 0
      · rw [if_pos q] at hR
        exact ite_yes q (close hR)
      · rw [if_neg q] at hR
        refine ite_no q ⟨⟨by omega, by omega⟩, by omega, ?_⟩
        have inner : ∀ (m s : Nat), s + m = 8 → F.conRG R c 8 0 = F.conRG R c m s → Sym.Runs Try.prog b0 (cutAt Try.f15 11) (st_con_11 l l_t c c_t (n : Int) V p.1 p.2.1 p.2.2 R n (s : Int)) (Sym.Ends Try.prog Try.f15 2 (.tup [.c (.bool (F.con l c)), .c (.int .i64 0)]) []) := by
          intro m
          induction m with
          | zero =>
            intro s hs he
            refine Runs.go (cfg := C_bef) L_bef_ok mixed cuts_con 400 hb (con_t11 l l_t c c_t (n : Int) V p.1 p.2.1 p.2.2 R n (s : Int)) ?_
            simp only [T.wp, T.wp_cond, Aft, Int.ofNat_eq_natCast, decide_eq_true_eq, and_true, true_and, Nat.zero_add, Bool.not_eq_true', decide_eq_false_iff_not]
            refine ite_no (by omega) ?_
            have e1 : F.conRG R c 8 0 = true := by rw [he]; rfl
            rw [if_pos e1] at hR
            exact close hR
          | succ m ih2 =>
            intro s hs he
            have nx2 := ih2 (s + 1) (by omega)
            have he : F.conRG R c 8 0 = (if max 0 (c.getD s 0) < R.getD s 0 then false else F.conRG R c m (s + 1)) := he
            refine Runs.go (cfg := C_bef) L_bef_ok mixed cuts_con 400 hb (con_t11 l l_t c c_t (n : Int) V p.1 p.2.1 p.2.2 R n (s : Int)) ?_
            simp only [T.wp, T.wp_cond, Aft, Int.ofNat_eq_natCast, decide_eq_true_eq, and_true, true_and, Nat.zero_add, Bool.not_eq_true', decide_eq_false_iff_not, Nat.zero_add, Int.toNat_natCast, ez]
            refine ite_yes (by omega) ⟨⟨by omega, by omega⟩, by omega, ⟨by omega, by omega⟩, by omega, ?_⟩
            by_cases q2 : max 0 (c.getD s 0) < R.getD s 0
            · rw [if_pos q2] at he
              have e1 : ¬ F.conRG R c 8 0 = true := by rw [he]; decide
              rw [if_neg e1] at hR
              refine ite_yes q2 ?_
              rw [hR]
            · rw [if_neg q2] at he
              rw [Int.natCast_succ] at nx2
              exact ite_no q2 ⟨by unfold Sym.i64ok; omega, nx2 he⟩
        exact inner 8 0 rfl rfl
  simp only [T.wp, T.wp_cond, Aft, Int.ofNat_eq_natCast, decide_eq_true_eq, and_true, true_and, Nat.zero_add, Bool.not_eq_true', decide_eq_false_iff_not]
  refine ⟨fun _ => ⟨⟨h0, hc⟩, ?_⟩, fun h => absurd hc (by simpa using h)⟩
  exact ite_no (by omega) (key l.length 0 (by omega) eC)



noncomputable def s_con : Summ cod := fun args H => match args, H with
  | [.c (.slc 0 l_i l_n l_t), .c (.slc 1 c_i c_n c_t)], [o0, o1] => (match o0.asInp 1 with | some l => (match o1.asInp 0 with | some c => .need ((l_i = 0 ∧ l_n = List.length l) ∧ (c_i = 0 ∧ c_n = List.length c) ∧ (l.length ≤ 1000000)) (.ret (.tup [.c (.bool (F.con l c)), .c (.int .i64 (F.conE l c))], [])) | none => .fail) | none => .fail)
  | _, _ => .fail


theorem con_sound : Sound Try.prog cod 15 s_con := sound_runs (cfg := C_bef) L_bef_ok mixed Try.func15 rfl rfl _ fun args H r news hg b0 hb => by
  unfold s_con at hg
  split at hg
  · skip
    split at hg
    · rename_i l hx0
      cases asInp_spec hx0
      split at hg
      · rename_i c hx1
        cases asInp_spec hx1
        simp only [T.gives, T.wp, Prod.mk.injEq] at hg
        obtain ⟨⟨⟨rfl, rfl⟩, ⟨rfl, rfl⟩, q2⟩, rfl, rfl⟩ := hg
        exact con_run _ _ _ _ b0 hb (by assumption)
      · exact hg.elim
    · exact hg.elim
  · exact hg.elim

noncomputable def L_con : Sums cod := (15, .p s_con) :: L_bef
noncomputable def C_con : Cfg cod := mkC L_con

theorem L_con_ok : Snd Try.prog cod L_con := .cons con_sound L_bef_ok


end
end Go.Proofs.Ytgmnfdmlidhbcaa
