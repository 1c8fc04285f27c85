/- Part of a claim: lemmas on the way to its theorem; each states its own conditions. -/
import Derived.Test.YtiolfkmkbccndaaGreatDoorXg
import Derived.Test.YtiolfkmkbccndaaGreatDoorBd29
import Derived.Test.YtiolfkmkbccndaaGreatDoorXz
import Derived.Test.YtiolfkmkbccndaaGreatDoorSym34
import Derived.Test.YtiolfkmkbccndaaGreatDoorSym24
namespace Go.Proofs.YtiolfkmkbccndaaGreatDoor
open Sym Go.RowKit
noncomputable section
set_option maxRecDepth 100000
set_option maxHeartbeats 4000000



def cuts_clone : Cuts := []

theorem clone_t0 (l : List (List UInt8 × List UInt8)) (l_t : Bool) (l_i l_n : Nat) : symF C_same cuts_clone Tryz.f42.results.toList 1 400 [.code (codeOf Tryz.f42)] ⟨argsS Tryz.f42 [.c (.slc 0 l_i l_n l_t)], ([.inp 1 l] : Heap cod)⟩ =
.need ((0 : Nat) < l_n) (
.need (List.length (List.take l_n (List.drop l_i l)) = l_n) (
.need (0 = 0) (
.need (((0 : Nat) < List.length (List.take l_n (List.drop l_i l)) ∧ 0 + List.length (List.take l_n (List.drop l_i l)) ≤ 1000000)) (
.ret (.fin (.c (.own 1 (0 + List.length (List.take l_n (List.drop l_i l))))) [.own 1 ([] ++ (List.take l_n (List.drop l_i l))) 56]))))) := by kernel_rfl



theorem clone_run (l : List (List UInt8 × List UInt8)) (l_t : Bool) (l_i l_n : Nat) (b0 : Base) (hb : b0.n = 1) (h0 : l_i + l_n ≤ List.length l) (h1 : 0 < l_n) (h2 : l_n ≤ 1000000) : Sym.Runs Tryz.prog b0 [.code (codeOf Tryz.f42)] ⟨argsS Tryz.f42 [.c (.slc 0 l_i l_n l_t)], ([.inp 1 l] : Heap cod)⟩ (Sym.Ends Tryz.prog Tryz.f42 1 (.c (.own 1 l_n)) [.own 1 ((l.drop l_i).take l_n) 56]) := by
  refine Runs.go (cfg := C_same) L_same_ok mixed cuts_clone 400 hb (clone_t0 l l_t l_i l_n) ?_
  have e : (List.take l_n (List.drop l_i l)).length = l_n := by rw [List.length_take, List.length_drop]; omega
  simp only [T.wp, Aft, true_and, Nat.zero_add, e]
  refine ⟨h1, ⟨h1, h2⟩, ?_⟩
  simp []
  rfl



noncomputable def s_clone : Summ cod := fun args H => match args, H with
  | [.c (.slc 0 l_i l_n l_t)], [o0] => (match o0.asInp 1 with | some l => .need ((l_i + l_n ≤ List.length l) ∧ (0 < l_n) ∧ (l_n ≤ 1000000)) (.ret (.c (.own 1 l_n), [.own 1 ((l.drop l_i).take l_n) 56])) | none => .fail)
  | _, _ => .fail


theorem clone_sound : Sound Tryz.prog cod 42 s_clone := sound_runs (cfg := C_same) L_same_ok mixed Tryz.func42 rfl rfl _ fun args H r news hg b0 hb => by
  unfold s_clone at hg
  split at hg
  · skip
    split at hg
    · rename_i l hx0
      cases asInp_spec hx0
      simp only [T.gives, T.wp, Prod.mk.injEq] at hg
      obtain ⟨⟨q0, q1, q2⟩, rfl, rfl⟩ := hg
      exact clone_run _ _ _ _ b0 hb (by assumption) (by assumption) (by assumption)
    · exact hg.elim
  · exact hg.elim

noncomputable def L_clone : Sums cod := (42, .p s_clone) :: L_same
noncomputable def C_clone : Cfg cod := mkC L_clone

theorem L_clone_ok : Snd Tryz.prog cod L_clone := .cons clone_sound L_same_ok



noncomputable def s_clone0 : Summ cod := fun args _ => match args with
  | [.c (.slc h _ n _)] => .need (n = 0) (.ret (.c (.slc h 0 0 true), []))
  | _ => .fail
/-- By the number of elements: none, or some. -/
noncomputable def s_len (s1 s2 : Summ cod) : Summ cod := fun args H => match args with
  | [.c (.slc _ _ n _)] => .ite (decide (n = 0)) (s1 args H) (s2 args H)
  | _ => .fail
noncomputable def s_cloneB : Summ cod := s_len s_clone0 s_clone


theorem Sound.len {g : FuncId} {s1 s2 : Summ cod} (h1 : Sound Tryz.prog cod g s1) (h2 : Sound Tryz.prog cod g s2) : Sound Tryz.prog cod g (s_len s1 s2) := by
  refine ⟨h1.enters, fun args H env w vs r news hro G ha hg => ?_⟩
  unfold s_len at hg
  split at hg
  · rename_i x i n t
    by_cases c : n = 0
    · exact h1.calls _ H env w vs r news hro G ha (hg.1 (by simp [c]))
    · exact h2.calls _ H env w vs r news hro G ha (hg.2 (by simp [c]))
  · exact hg.elim
theorem clone0_sound : Sound Tryz.prog cod 42 s_clone0 := by
  refine ⟨clone_sound.enters, fun args H env w vs r news hro G ha hg => ?_⟩
  unfold s_clone0 at hg
  split at hg
  · rename_i x i n t
    obtain ⟨hn, hr⟩ := hg
    subst hn
    cases hr
    cases ha with
    | @cons _ v0 _ vs hx hxs =>
      cases hxs
      obtain ⟨hN, A, c, rfl, h1, h2, h3, h4⟩ := hx
      cases A with
      | none =>
        refine (cloneR_none c w).mono ?_
        rintro e w' ⟨rfl, rfl⟩
        exact ⟨_, env, rfl, EnvEq.refl _ _, ⟨hN, none, 0, rfl, Nat.le_refl _, by decide, fun _ => rfl, fun h => absurd h (by decide)⟩, by simpa using G, ⟨Below.refl _ _, Nat.le_refl _⟩⟩
      | some a =>
        refine (cloneR_zero a c w).mono ?_
        rintro e w' ⟨A, rfl, hb, hd⟩
        exact ⟨_, env, rfl, EnvEq.refl _ _, ⟨hN, A, 0, rfl, Nat.le_refl _, by decide, fun _ => rfl, fun h => absurd h (by decide)⟩, by simpa using G.below hb (Nat.le_refl _), ⟨hb, dl_mono hd⟩⟩
  · exact hg.elim
theorem cloneB_sound : Sound Tryz.prog cod 42 s_cloneB := Sound.len clone0_sound clone_sound

noncomputable def L_cloneB : Sums cod := (42, .p s_cloneB) :: L_clone
noncomputable def C_cloneB : Cfg cod := mkC L_cloneB

theorem L_cloneB_ok : Snd Tryz.prog cod L_cloneB := .cons cloneB_sound L_clone_ok



noncomputable def s_insR : Summ cod := s_ins 1 56
noncomputable def s_delR : Summ cod := s_del 1 56


theorem insR_sound : SoundI Tryz.prog cod 56 s_insR := ins_sound ⟨fun args w => enters_fn Tryz.func56 rfl rfl args w, fun v n i vb vc xs vs tv w h1 h2 h3 h4 h5 h6 h7 h8 => row_insert v n i vb vc xs vs tv w h1 h2 h3 h4 h5 h6 h7 h8, fun A vb vc vs tv w h1 h2 h3 => row_insert0 A vb vc vs tv w h1 h2 h3⟩
theorem delR_sound : SoundI Tryz.prog cod 46 s_delR := del_sound (zs := [.string ⟨#[]⟩, .string ⟨#[]⟩]) ⟨fun args w => enters_fn Tryz.func46 rfl rfl args w, rfl, fun b n cap i cur w h1 h2 h3 h4 h5 h6 => row_delete b n cap i cur w h1 h2 h3 h4 h5 h6⟩

noncomputable def L_insR : Sums cod := (56, .i s_insR) :: L_cloneB
noncomputable def C_insR : Cfg cod := mkC L_insR

theorem L_insR_ok : Snd Tryz.prog cod L_insR := .consI insR_sound L_cloneB_ok


noncomputable def L_delR : Sums cod := (46, .i s_delR) :: L_insR
noncomputable def C_delR : Cfg cod := mkC L_delR

theorem L_delR_ok : Snd Tryz.prog cod L_delR := .consI delR_sound L_insR_ok



def cuts_setA : Cuts := []

theorem setA_t0 (l : List (List UInt8 × List UInt8)) (k v : List UInt8) : symI C_delR cuts_setA Tryz.f41.results.toList ([.own 1 l 56] : Heap cod) 400 [.code (codeOf Tryz.f41)] ⟨argsS Tryz.f41 [.c (.own 0 (List.length l)), .c (.str k), .c (.str v)], ([.own 1 l 56] : Heap cod)⟩ =
.need (((0 = 0 ∧ List.length l = List.length l) ∧ (F.srt l = true ∧ List.length l ≤ 1000000))) (
 cond (F.has l k) (
 .need (((0 : Int) ≤ Int.ofNat (F.pos l k) ∧ Int.ofNat (F.pos l k) < Int.ofNat (List.length l))) (
 .need (0 + Int.toNat (Int.ofNat (F.pos l k)) < List.length l) (
 .ret (.fin (.c (.own 0 (List.length l))) [.own 1 (List.set l (0 + Int.toNat (Int.ofNat (F.pos l k)))   ((List.getD l (0 + Int.toNat (Int.ofNat (F.pos l k))) (cod 1).d).1, v)) 56])))) (
 .need (((0 : Int) ≤ Int.ofNat (F.pos l k) ∧ (Int.ofNat (F.pos l k) ≤ Int.ofNat (List.length l) ∧ (List.length l + 1 ≤ 1000000 ∧ 1 = 1)))) (
 .ret (.fin (.c (.own 0 (List.length l + 1))) [.own 1 (((List.take (Int.toNat (Int.ofNat (F.pos l k))) l) ++ ([(k, v)])) ++ (List.drop (Int.toNat (Int.ofNat (F.pos l k))) l)) 56])))) := by kernel_rfl



theorem setA_run (l : List (List UInt8 × List UInt8)) (k v : List UInt8) (b0 : Base) (hb : b0.n = 1) (h0 : F.srt l = true) (h1 : l.length ≤ 100000) : Sym.Runs Tryz.prog b0 [.code (codeOf Tryz.f41)] ⟨argsS Tryz.f41 [.c (.own 0 (List.length l)), .c (.str k), .c (.str v)], ([.own 1 l 56] : Heap cod)⟩ (Sym.EndsI Tryz.prog Tryz.f41 ([.own 1 l 56] : Heap cod) (.c (.own 0 (List.length (F.wth k v false l)))) [.own 1 (F.wth k v false l) 56]) := by
  have e0 : ∀ k, List.getD l k (cod 1).d = List.getD l k F.r0 := fun _ => rfl
  refine Runs.goI (cfg := C_delR) L_delR_ok mixed cuts_setA 400 (H := ([.own 1 l 56] : Heap cod)) hb (setA_t0 l k v) ?_
  simp only [T.wp, T.wp_cond, Aft, Int.ofNat_eq_natCast, and_true, true_and, Nat.zero_add, e0, Int.toNat_natCast]
  refine ⟨⟨h0, by omega⟩, ?_⟩
  have hp := has_pos (k := k) h0
  have hle := pos_le l k
  by_cases d : F.has l k = true
  · rw [d] at hp
    have hp' := hp.symm
    rw [Bool.and_eq_true, decide_eq_true_eq, decide_eq_true_eq] at hp'
    have e1 : F.wth k v false l = l.set (F.pos l k) ((l.getD (F.pos l k) F.r0).1, v) := by rw [wth_set h0 d, hp'.2]
    have e2 : (F.wth k v false l).length = l.length := by rw [e1, List.length_set]
    rw [e2, e1]
    exact ite_yes d ⟨⟨by omega, by omega⟩, hp'.1, rfl, rfl⟩
  · have d' : F.has l k = false := by simpa using d
    have e1 := wth_ins (v := v) h0 d'
    have e2 : (F.wth k v false l).length = l.length + 1 := by rw [wth_len h0, if_neg d]
    rw [e2, e1]
    exact ite_no d ⟨⟨by omega, by omega, by omega⟩, rfl, rfl⟩



noncomputable def s_setA : Summ cod := fun args H => match args, H with
  | [.c (.own 0 n), .c (.str k), .c (.str v)], [o0] => (match o0.asOwn 1 56 with | some l => .need ((.c (.own 0 n) : SV) = .c (.own 0 (List.length l))) (.need ((F.srt l = true) ∧ (l.length ≤ 100000)) (.ret (.c (.own 0 (List.length (F.wth k v false l))), [.own 1 (F.wth k v false l) 56]))) | none => .fail)
  | _, _ => .fail


theorem setA_sound : SoundI Tryz.prog cod 41 s_setA := tree_soundI (cfg := C_delR) Tryz.func41 rfl rfl _ fun args H r H' hg b0 hb => by
  unfold s_setA at hg
  split at hg
  · skip
    split at hg
    · rename_i l hx0
      cases asOwn_spec hx0
      obtain ⟨tt, hg⟩ := hg
      have t0 := tt
      cases t0
      obtain ⟨hq, hg⟩ := hg
      obtain ⟨q0, q1⟩ := hq
      cases hg
      exact setA_run _ _ _ b0 hb (by assumption) (by assumption)
    · exact hg.elim
  · exact hg.elim

noncomputable def L_setA : Sums cod := (41, .i s_setA) :: L_delR
noncomputable def C_setA : Cfg cod := mkC L_setA

theorem L_setA_ok : Snd Tryz.prog cod L_setA := .consI setA_sound L_delR_ok



def cuts_setB : Cuts := []

theorem setB_t0 (l : List (List UInt8 × List UInt8)) (k v : List UInt8) : symI C_setA cuts_setB Tryz.f41.results.toList ([.inp 1 l] : Heap cod) 400 [.code (codeOf Tryz.f41)] ⟨argsS Tryz.f41 [.c (.slc 0 0 0 true), .c (.str k), .c (.str v)], ([.inp 1 l] : Heap cod)⟩ =
.need (((0 = 0 ∧ 0 = List.length l) ∧ (F.srt l = true ∧ List.length l ≤ 1000000))) (
 cond (F.has l k) (
 .need (((0 : Int) ≤ Int.ofNat (F.pos l k) ∧ Int.ofNat (F.pos l k) < Int.ofNat 0)) (
 .fail)) (
 .need ((0 = 0 ∧ (Int.ofNat (F.pos l k) = 0 ∧ 1 = 1))) (
 .ret (.fin (.c (.own 1 1)) [.dead, .own 1 ([(k, v)]) 56])))) := by kernel_rfl



theorem setB_run (l : List (List UInt8 × List UInt8)) (k v : List UInt8) (b0 : Base) (hb : b0.n = 1) (h0 : l = []) : Sym.Runs Tryz.prog b0 [.code (codeOf Tryz.f41)] ⟨argsS Tryz.f41 [.c (.slc 0 0 0 true), .c (.str k), .c (.str v)], ([.inp 1 l] : Heap cod)⟩ (Sym.EndsI Tryz.prog Tryz.f41 ([.inp 1 l] : Heap cod) (.c (.own 1 1)) [.dead, .own 1 [(k, v)] 56]) := by
  subst h0
  refine Runs.goI (cfg := C_setA) L_setA_ok mixed cuts_setB 400 (H := ([.inp 1 []] : Heap cod)) hb (setB_t0 [] k v) ?_
  simp only [T.wp, T.wp_cond, Aft, Int.ofNat_eq_natCast, and_true, true_and]
  refine ⟨⟨rfl, rfl, by decide⟩, ite_no (fun h => by cases h) rfl⟩



noncomputable def s_setB : Summ cod := fun args H => match args, H with
  | [.c (.slc 0 0 0 true), .c (.str k), .c (.str v)], [o0] => (match o0.asInp 1 with | some l => .need ((l = [])) (.ret (.c (.own 1 1), [.dead, .own 1 [(k, v)] 56])) | none => .fail)
  | _, _ => .fail


theorem setB_sound : SoundI Tryz.prog cod 41 s_setB := tree_soundI (cfg := C_setA) Tryz.func41 rfl rfl _ fun args H r H' hg b0 hb => by
  unfold s_setB at hg
  split at hg
  · skip
    split at hg
    · rename_i l hx0
      cases asInp_spec hx0
      obtain ⟨hq, hg⟩ := hg
      have q0 := hq
      cases hg
      exact setB_run _ _ _ b0 hb (by assumption)
    · exact hg.elim
  · exact hg.elim

noncomputable def L_setB : Sums cod := (41, .i s_setB) :: L_setA
noncomputable def C_setB : Cfg cod := mkC L_setB

theorem L_setB_ok : Snd Tryz.prog cod L_setB := .consI setB_sound L_setA_ok



noncomputable def s_sset : Summ cod := s_by ownFirst s_setA s_setB


theorem sset_sound : SoundI Tryz.prog cod 41 s_sset := .by_ _ setA_sound setB_sound

noncomputable def L_sset : Sums cod := (41, .i s_sset) :: L_setB
noncomputable def C_sset : Cfg cod := mkC L_sset

theorem L_sset_ok : Snd Tryz.prog cod L_sset := .consI sset_sound L_setB_ok



namespace F
def setE (l : List Row) (k v : List UInt8) : Int := if chk l = 0 then (if key k = false ∨ value v = false then 3 else if 64 < (wth k v false l).length then 9 else 0) else chk l
def setR (l : List Row) (k v : List UInt8) : List Row := if setE l k v = 0 then wth k v false l else []
def cutE (l : List Row) (k : List UInt8) : Int := if chk l = 0 then (if has l k = true then 0 else 8) else chk l
def cutR (l : List Row) (k : List UInt8) : List Row := if cutE l k = 0 then wth k [] true l else []
end F


def cuts_set : Cuts := []

theorem set_t0 (l : List (List UInt8 × List UInt8)) (l_t : Bool) (k : List UInt8) (v : List UInt8) : symF C_sset cuts_set Tryz.f31.results.toList 1 400 [.code (codeOf Tryz.f31)] ⟨argsS Tryz.f31 [.c (.slc 0 0 (List.length l) l_t), .c (.str k), .c (.str v)], ([.inp 1 l] : Heap cod)⟩ =
.need (((0 = 0 ∧ List.length l = List.length l) ∧ F.short l)) (
 cond (!decide (F.chk l = 0)) (
 .ret (.fin (.tup [.c (.own 1 0), .c (.int .i64 (F.chk l))]) [.own 1 [] 56])) (
 .need (List.length k ≤ 1000000000000000) (
 cond (!F.key k) (
  .ret (.fin (.tup [.c (.own 1 0), .c (.int .i64 3)]) [.own 1 [] 56])) (
  .need (List.length v ≤ 1000000000000000) (
  cond (!F.value v) (
   .ret (.fin (.tup [.c (.own 1 0), .c (.int .i64 3)]) [.own 1 [] 56])) (
   .ite (decide (List.length l = 0)) (
    .need (List.length l = 0) (
    .need (l = []) (
    .ret (.fin (.tup [.c (.own 1 1), .c (.int .i64 0)]) [.own 1 [(k, v)] 56])))) (
    .need ((0 + List.length l ≤ List.length l ∧ ((0 : Nat) < List.length l ∧ List.length l ≤ 1000000))) (
    .need (SV.c (Cell.own 0 (List.length l)) = SV.c (Cell.own 0 (List.length (List.take (List.length l) (List.drop 0 l))))) (
    .need ((F.srt (List.take (List.length l) (List.drop 0 l)) = true ∧ List.length (List.take (List.length l) (List.drop 0 l)) ≤ 100000)) (
    cond (decide (64 < Int.ofNat (List.length (F.wth k v false (List.take (List.length l) (List.drop 0 l)))))) (
     .ret (.fin (.tup [.c (.own 1 0), .c (.int .i64 9)]) [.own 1 [] 56])) (
     .ret (.fin (.tup [.c (.own 1 (List.length (F.wth k v false (List.take (List.length l) (List.drop 0 l))))), .c (.int .i64 0)]) [.own 1 (F.wth k v false (List.take (List.length l) (List.drop 0 l))) 56])))))))))))) := by kernel_rfl



theorem set_run (l : List (List UInt8 × List UInt8)) (l_t : Bool) (k : List UInt8) (v : List UInt8) (b0 : Base) (hb : b0.n = 1) (h0 : F.short l) (h1 : k.length ≤ 1000000000000000) (h2 : v.length ≤ 1000000000000000) : Sym.Runs Tryz.prog b0 [.code (codeOf Tryz.f31)] ⟨argsS Tryz.f31 [.c (.slc 0 0 (List.length l) l_t), .c (.str k), .c (.str v)], ([.inp 1 l] : Heap cod)⟩ (Sym.Ends Tryz.prog Tryz.f31 1 (.tup [.c (.own 1 (List.length (F.setR l k v))), .c (.int .i64 (F.setE l k v))]) [.own 1 (F.setR l k v) 56]) := by
  have key : ∀ x : List F.Row, x = l → x = List.take l.length (List.drop 0 l) := fun x h => by rw [h, List.drop_zero, List.take_length]
  have ex := key l rfl
  refine Runs.go (cfg := C_sset) L_sset_ok mixed cuts_set 400 hb (set_t0 l l_t k v) ?_
  simp only [T.wp, T.wp_cond, Aft, Int.ofNat_eq_natCast, decide_eq_true_eq, and_true, true_and, Nat.zero_add, Bool.not_eq_true', decide_eq_false_iff_not]
  rw [← ex]
  refine ⟨h0, ?_⟩
  by_cases c : F.chk l = 0
  · obtain ⟨c1, c2, c3⟩ := chk0 c
    refine ite_no (by simpa using c) ⟨h1, ?_⟩
    by_cases ck : F.key k = false
    · have e : F.setE l k v = 3 := by unfold F.setE; rw [if_pos c, if_pos (.inl ck)]
      unfold F.setR
      rw [e]
      exact ite_yes ck ⟨rfl, rfl⟩
    · refine ite_no ck ⟨h2, ?_⟩
      by_cases cv : F.value v = false
      · have e : F.setE l k v = 3 := by unfold F.setE; rw [if_pos c, if_pos (.inr cv)]
        unfold F.setR
        rw [e]
        exact ite_yes cv ⟨rfl, rfl⟩
      · have e : F.setE l k v = if 64 < (F.wth k v false l).length then 9 else 0 := by unfold F.setE; rw [if_pos c, if_neg (by rintro (h | h); exact ck h; exact cv h)]
        refine ite_no cv ⟨fun hl => ?_, fun hl => ?_⟩
        · obtain rfl : l = [] := List.eq_nil_of_length_eq_zero hl
          rw [show F.wth k v false [] = [(k, v)] from rfl] at e
          rw [if_neg (by simp)] at e
          have e2 : F.setR [] k v = [(k, v)] := by unfold F.setR; rw [e]; rfl
          rw [e2, e]
          exact ⟨rfl, rfl, rfl, rfl⟩
        · refine ⟨⟨by omega, by omega, by omega⟩, rfl, ⟨c2, by omega⟩, ?_⟩
          by_cases cl : 64 < (F.wth k v false l).length
          · rw [if_pos cl] at e
            unfold F.setR
            rw [e]
            exact ite_yes (by omega) ⟨rfl, rfl⟩
          · rw [if_neg cl] at e
            unfold F.setR
            rw [e]
            exact ite_no (by omega) ⟨rfl, rfl⟩
  · have e : F.setE l k v = F.chk l := by unfold F.setE; rw [if_neg c]
    have e2 : F.setR l k v = [] := by unfold F.setR; rw [e, if_neg c]
    rw [e2, e]
    exact ite_yes (by simpa using c) ⟨rfl, rfl⟩



noncomputable def s_set : Summ cod := fun args H => match args, H with
  | [.c (.slc 0 l_i l_n l_t), .c (.str k), .c (.str v)], [o0] => (match o0.asInp 1 with | some l => .need ((l_i = 0 ∧ l_n = List.length l) ∧ (F.short l) ∧ (k.length ≤ 1000000000000000) ∧ (v.length ≤ 1000000000000000)) (.ret (.tup [.c (.own 1 (List.length (F.setR l k v))), .c (.int .i64 (F.setE l k v))], [.own 1 (F.setR l k v) 56])) | none => .fail)
  | _, _ => .fail


theorem set_sound : Sound Tryz.prog cod 31 s_set := sound_runs (cfg := C_sset) L_sset_ok mixed Tryz.func31 rfl rfl _ fun args H r news hg b0 hb => by
  unfold s_set at hg
  split at hg
  · skip
    split at hg
    · rename_i l hx0
      cases asInp_spec hx0
      simp only [T.gives, T.wp, Prod.mk.injEq] at hg
      obtain ⟨⟨⟨rfl, rfl⟩, q1, q2, q3⟩, rfl, rfl⟩ := hg
      exact set_run _ _ _ _ b0 hb (by assumption) (by assumption) (by assumption)
    · exact hg.elim
  · exact hg.elim

noncomputable def L_set : Sums cod := (31, .p s_set) :: L_sset
noncomputable def C_set : Cfg cod := mkC L_set

theorem L_set_ok : Snd Tryz.prog cod L_set := .cons set_sound L_sset_ok



def cuts_cut : Cuts := []

theorem cut_t0 (l : List (List UInt8 × List UInt8)) (l_t : Bool) (k : List UInt8) : symF C_set cuts_cut Tryz.f33.results.toList 1 400 [.code (codeOf Tryz.f33)] ⟨argsS Tryz.f33 [.c (.slc 0 0 (List.length l) l_t), .c (.str k)], ([.inp 1 l] : Heap cod)⟩ =
.need (((0 = 0 ∧ List.length l = List.length l) ∧ F.short l)) (
 cond (!decide (F.chk l = 0)) (
 .ret (.fin (.tup [.c (.own 1 0), .c (.int .i64 (F.chk l))]) [.own 1 [] 56])) (
 .need (((0 = 0 ∧ List.length l = List.length l) ∧ (F.srt l = true ∧ List.length l ≤ 1000000))) (
 cond (!F.has l k) (
  .ret (.fin (.tup [.c (.own 1 0), .c (.int .i64 8)]) [.own 1 [] 56])) (
  .ite (decide (List.length l = 0)) (
   .need (List.length l = 0) (
   .need (i64ok (Int.ofNat (F.pos l k) + 1)) (
   .fail))) (
   .need ((0 + List.length l ≤ List.length l ∧ ((0 : Nat) < List.length l ∧ List.length l ≤ 1000000))) (
   .need (i64ok (Int.ofNat (F.pos l k) + 1)) (
   .need (((0 : Int) ≤ Int.ofNat (F.pos l k) ∧ (Int.ofNat (F.pos l k) < Int.ofNat (List.length (List.take (List.length l) (List.drop 0 l))) ∧ Int.ofNat (F.pos l k) + 1 = Int.ofNat (F.pos l k) + 1))) (
   .ret (.fin (.tup [.c (.own 1 (List.length (List.take (List.length l) (List.drop 0 l)) - 1)), .c (.int .i64 0)]) [.own 1 (List.eraseIdx (List.take (List.length l) (List.drop 0 l)) (Int.toNat (Int.ofNat (F.pos l k)))) 56]))))))))) := by kernel_rfl



theorem cut_run (l : List (List UInt8 × List UInt8)) (l_t : Bool) (k : List UInt8) (b0 : Base) (hb : b0.n = 1) (h0 : F.short l) : Sym.Runs Tryz.prog b0 [.code (codeOf Tryz.f33)] ⟨argsS Tryz.f33 [.c (.slc 0 0 (List.length l) l_t), .c (.str k)], ([.inp 1 l] : Heap cod)⟩ (Sym.Ends Tryz.prog Tryz.f33 1 (.tup [.c (.own 1 (List.length (F.cutR l k))), .c (.int .i64 (F.cutE l k))]) [.own 1 (F.cutR l k) 56]) := by
  have ex : l = List.take l.length (List.drop 0 l) := by rw [List.drop_zero, List.take_length]
  refine Runs.go (cfg := C_set) L_set_ok mixed cuts_cut 400 hb (cut_t0 l l_t k) ?_
  simp only [T.wp, T.wp_cond, Aft, Int.ofNat_eq_natCast, decide_eq_true_eq, and_true, true_and, Nat.zero_add, Bool.not_eq_true', decide_eq_false_iff_not, Int.toNat_natCast]
  rw [← ex]
  refine ⟨h0, ?_⟩
  by_cases c : F.chk l = 0
  · obtain ⟨c1, c2, c3⟩ := chk0 c
    refine ite_no (by simpa using c) ⟨⟨c2, by omega⟩, ?_⟩
    by_cases d : F.has l k = true
    · have e : F.cutE l k = 0 := by unfold F.cutE; rw [if_pos c, if_pos d]
      have hp := has_pos (k := k) c2
      rw [d] at hp
      have hp' := hp.symm
      rw [Bool.and_eq_true, decide_eq_true_eq] at hp'
      have e1 := wth_del (v := []) c2 d
      have e2 : F.cutR l k = l.eraseIdx (F.pos l k) := by unfold F.cutR; rw [e, if_pos rfl, e1]
      have e3 : (F.cutR l k).length = l.length - 1 := by rw [e2, List.length_eraseIdx, if_pos hp'.1]
      rw [e3, e2, e]
      refine ite_no (by simp [d]) ⟨fun hl => ?_, fun hl => ?_⟩
      · omega
      · exact ⟨⟨by omega, by omega, by omega⟩, by unfold i64ok; omega, ⟨by omega, by omega⟩, rfl, congrArg (fun x : List F.Row => [(HObj.own 1 (x.eraseIdx (F.pos l k)) 56 : HObj cod)]) ex.symm⟩
    · have e : F.cutE l k = 8 := by unfold F.cutE; rw [if_pos c, if_neg d]
      unfold F.cutR
      rw [e]
      exact ite_yes (by simpa using d) ⟨rfl, rfl⟩
  · have e : F.cutE l k = F.chk l := by unfold F.cutE; rw [if_neg c]
    have e2 : F.cutR l k = [] := by unfold F.cutR; rw [e, if_neg c]
    rw [e2, e]
    exact ite_yes (by simpa using c) ⟨rfl, rfl⟩



noncomputable def s_cut : Summ cod := fun args H => match args, H with
  | [.c (.slc 0 l_i l_n l_t), .c (.str k)], [o0] => (match o0.asInp 1 with | some l => .need ((l_i = 0 ∧ l_n = List.length l) ∧ (F.short l)) (.ret (.tup [.c (.own 1 (List.length (F.cutR l k))), .c (.int .i64 (F.cutE l k))], [.own 1 (F.cutR l k) 56])) | none => .fail)
  | _, _ => .fail


theorem cut_sound : Sound Tryz.prog cod 33 s_cut := sound_runs (cfg := C_set) L_set_ok mixed Tryz.func33 rfl rfl _ fun args H r news hg b0 hb => by
  unfold s_cut at hg
  split at hg
  · skip
    split at hg
    · rename_i l hx0
      cases asInp_spec hx0
      simp only [T.gives, T.wp, Prod.mk.injEq] at hg
      obtain ⟨⟨⟨rfl, rfl⟩, q1⟩, rfl, rfl⟩ := hg
      exact cut_run _ _ _ b0 hb (by assumption)
    · exact hg.elim
  · exact hg.elim

noncomputable def L_cut : Sums cod := (33, .p s_cut) :: L_set
noncomputable def C_cut : Cfg cod := mkC L_cut

theorem L_cut_ok : Snd Tryz.prog cod L_cut := .cons cut_sound L_set_ok


end
end Go.Proofs.YtiolfkmkbccndaaGreatDoor
