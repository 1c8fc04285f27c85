/- Part of a claim: lemmas on the way to its theorem; each states its own conditions. -/
import Derived.Test.YthljcjighomgkaaFl
namespace Go.Proofs.Ythljcjighomgkaa
open Sym Go.RowKit
noncomputable section
set_option maxRecDepth 100000
set_option maxHeartbeats 4000000

namespace F
def pfit (l : List Nd) (t x y h ra : Int) : Bool := decide (atE l t = 0) && ((inb ((atR l t).2.2.2.2.1 + ra) 0 8000000 && decide (far (atR l t).2.1 (atR l t).2.2.1 x y ≤ ((atR l t).2.2.2.2.1 + ra) * ((atR l t).2.2.2.2.1 + ra))) && decide (max ((atR l t).2.2.2.1 - h) (h - (atR l t).2.2.2.1) ≤ (atR l t).2.2.2.2.2 + 100))
def tpOk (t x y h ra c : Int) : Prop := tpart t x y h ra c = 0
def pE1 (l : List Nd) (code : Int) : Int := if tubeE l = 0 then (if inb code 0 4095 then 0 else 4) else tubeE l
def pE (l : List Nd) (t x y h ra c code : Int) : Int := if pE1 l code = 0 then tpart t x y h ra c else pE1 l code
def pcost (l : List Nd) (t x y h ra c code : Int) : Int := if pfit l t x y h ra && (decide (c = -1) || decide (c = code)) then (if c = -1 then (far x y (atR l t).2.1 (atR l t).2.2.1).tdiv 10000 + 1048576 else (far x y (atR l t).2.1 (atR l t).2.2.1).tdiv 10000) else -1
end F


theorem ite_yes' {c : Prop} [Decidable c] {a b : Prop} (h : c) (x : a) : if c then a else b := by rw [if_pos h]; exact x
theorem ite_no' {c : Prop} [Decidable c] {a b : Prop} (h : ¬ c) (x : b) : if c then a else b := by rw [if_neg h]; exact x
theorem F.tpart_bd {t x y h ra c : Int} (hz : F.tpart t x y h ra c = 0) : (0 ≤ t ∧ t ≤ 200000) ∧ (-1000000 ≤ x ∧ x ≤ 1000000) ∧ (-1000000 ≤ y ∧ y ≤ 1000000) ∧ (0 ≤ h ∧ h ≤ 60000) ∧ (0 ≤ ra ∧ ra ≤ 4000000) ∧ -1 ≤ c ∧ c ≤ 4095 := by
  unfold F.tpart F.placed F.inb at hz
  split at hz
  · rename_i q
    simp only [Bool.and_eq_true, decide_eq_true_eq] at q
    omega
  · cases hz


def cuts_pfits : Cuts := []

theorem pfits_t0 (i st t x y sx sy h r ra c hi mi : Int) (l : List (Int × Int × Int × Int × Int × Int)) (l_t : Bool) : symF C_tAt cuts_pfits Try.f83.results.toList 1 400 [.code (codeOf Try.f83)] ⟨argsS Try.f83 [.agg [.int .i64 i, .int .i64 st, .int .i64 t, .int .i64 x, .int .i64 y, .int .i64 sx, .int .i64 sy, .int .i64 h, .int .i64 r, .int .i64 ra, .int .i64 c, .int .i64 hi, .int .i64 mi], .c (.slc 0 0 (List.length l) l_t)], ([.inp 2 l] : Heap cod)⟩ =
.need ((0 = 0 ∧ List.length l = List.length l)) (
 cond (decide (F.atE l t = 0)) (
 .need (i64ok ((F.atR l t).2.2.2.2.1 + ra)) (
 .need ((F.b9 (F.atR l t).2.1 ∧ (F.b9 (F.atR l t).2.2.1 ∧ (F.b9 x ∧ F.b9 y)))) (
 cond (F.inb ((F.atR l t).2.2.2.2.1 + ra) 0 8000000 &&   decide (F.far (F.atR l t).2.1 (F.atR l t).2.2.1 x y ≤ ((F.atR l t).2.2.2.2.1 + ra) * ((F.atR l t).2.2.2.2.1 + ra))) (
  .need (i64ok ((F.atR l t).2.2.2.1 - h)) (
  .need (i64ok (h - (F.atR l t).2.2.2.1)) (
  .need (i64ok ((F.atR l t).2.2.2.2.2 + 100)) (
  .ret (.fin (.tup [.agg [.int .i64 ((F.atR l t).1), .int .i64 ((F.atR l t).2.1), .int .i64 ((F.atR l t).2.2.1), .int .i64 ((F.atR l t).2.2.2.1), .int .i64 ((F.atR l t).2.2.2.2.1), .int .i64 ((F.atR l t).2.2.2.2.2)], .c (.bool (decide (max ((F.atR l t).2.2.2.1 - h) (h - (F.atR l t).2.2.2.1) ≤ (F.atR l t).2.2.2.2.2 + 100)))]) []))))) (
  .ret (.fin (.tup [.agg [.int .i64 ((F.atR l t).1), .int .i64 ((F.atR l t).2.1), .int .i64 ((F.atR l t).2.2.1), .int .i64 ((F.atR l t).2.2.2.1), .int .i64 ((F.atR l t).2.2.2.2.1), .int .i64 ((F.atR l t).2.2.2.2.2)], .c (.bool false)]) []))))) (
 .ret (.fin (.tup [.agg [.int .i64 ((F.atR l t).1), .int .i64 ((F.atR l t).2.1), .int .i64 ((F.atR l t).2.2.1), .int .i64 ((F.atR l t).2.2.2.1), .int .i64 ((F.atR l t).2.2.2.2.1), .int .i64 ((F.atR l t).2.2.2.2.2)], .c (.bool false)]) []))) := by kernel_rfl



theorem pfits_run (i st t x y sx sy h r ra c hi mi : Int) (l : List (Int × Int × Int × Int × Int × Int)) (l_t : Bool) (b0 : Base) (hb : b0.n = 1) (h0 : F.tpOk t x y h ra c) : Sym.Runs Try.prog b0 [.code (codeOf Try.f83)] ⟨argsS Try.f83 [.agg [.int .i64 i, .int .i64 st, .int .i64 t, .int .i64 x, .int .i64 y, .int .i64 sx, .int .i64 sy, .int .i64 h, .int .i64 r, .int .i64 ra, .int .i64 c, .int .i64 hi, .int .i64 mi], .c (.slc 0 0 (List.length l) l_t)], ([.inp 2 l] : Heap cod)⟩ (Sym.Ends Try.prog Try.f83 1 (.tup [.agg [.int .i64 (F.atR l t).1, .int .i64 (F.atR l t).2.1, .int .i64 (F.atR l t).2.2.1, .int .i64 (F.atR l t).2.2.2.1, .int .i64 (F.atR l t).2.2.2.2.1, .int .i64 (F.atR l t).2.2.2.2.2], .c (.bool (F.pfit l t x y h ra))]) []) := by
  refine Runs.go (cfg := C_tAt) L_tAt_ok mixed cuts_pfits 400 hb (pfits_t0 i st t x y sx sy h r ra c hi mi l l_t) ?_
  have b := F.tpart_bd h0
  obtain ⟨⟨d1, d2⟩, d3, d4, d5⟩ := atR_bd l t
  simp only [T.wp, T.wp_cond, Aft]
  refine ⟨⟨trivial, trivial⟩, ?_⟩
  unfold F.pfit
  cases q0 : decide (F.atE l t = 0)
  · simp
  · simp only [if_true, Bool.true_and]
    refine ⟨by unfold i64ok; omega, ⟨by unfold F.b9; omega, by unfold F.b9; omega, by unfold F.b9; omega, by unfold F.b9; omega⟩, ?_⟩
    cases q1 : (F.inb ((F.atR l t).2.2.2.2.1 + ra) 0 8000000 && decide (F.far (F.atR l t).2.1 (F.atR l t).2.2.1 x y ≤ ((F.atR l t).2.2.2.2.1 + ra) * ((F.atR l t).2.2.2.2.1 + ra)))
    · simp
    · simp only [if_true, Bool.true_and]
      exact ⟨by unfold i64ok; omega, by unfold i64ok; omega, by unfold i64ok; omega, by first | exact ⟨rfl, rfl⟩ | exact ⟨rfl, trivial⟩ | simp⟩



noncomputable def s_pfits : Summ cod := fun args H => match args, H with
  | [.agg [.int .i64 i, .int .i64 st, .int .i64 t, .int .i64 x, .int .i64 y, .int .i64 sx, .int .i64 sy, .int .i64 h, .int .i64 r, .int .i64 ra, .int .i64 c, .int .i64 hi, .int .i64 mi], .c (.slc 0 l_i l_n l_t)], [o0] => (match o0.asInp 2 with | some l => .need ((l_i = 0 ∧ l_n = List.length l) ∧ (F.tpOk t x y h ra c)) (.ret (.tup [.agg [.int .i64 (F.atR l t).1, .int .i64 (F.atR l t).2.1, .int .i64 (F.atR l t).2.2.1, .int .i64 (F.atR l t).2.2.2.1, .int .i64 (F.atR l t).2.2.2.2.1, .int .i64 (F.atR l t).2.2.2.2.2], .c (.bool (F.pfit l t x y h ra))], [])) | none => .fail)
  | _, _ => .fail


theorem pfits_sound : Sound Try.prog cod 83 s_pfits := sound_runs (cfg := C_tAt) L_tAt_ok mixed Try.func83 rfl rfl _ fun args H r news hg b0 hb => by
  unfold s_pfits at hg
  split at hg
  · skip
    split at hg
    · rename_i l hx0
      cases asInp_spec hx0
      simp only [T.gives, T.wp, Prod.mk.injEq] at hg
      obtain ⟨⟨⟨rfl, rfl⟩, q1⟩, rfl, rfl⟩ := hg
      exact pfits_run _ _ _ _ _ _ _ _ _ _ _ _ _ _ _ b0 hb (by assumption)
    · exact hg.elim
  · exact hg.elim

noncomputable def L_pfits : Sums cod := (83, .p s_pfits) :: L_tAt
noncomputable def C_pfits : Cfg cod := mkC L_pfits

theorem L_pfits_ok : Snd Try.prog cod L_pfits := .cons pfits_sound L_tAt_ok



noncomputable def s_pchk : Summ cod := fun args H => match args, H with
  | [.c (.slc 0 0 1 _), .c (.slc 1 0 1 _)], [.rblk [.slc 2 li ln _], o1, o2] => (match o1.asInp 0 with
    | some [code] => (match o2.asInp 2 with
      | some l => .need (li = 0 ∧ ln = List.length l) (.ret (.c (.int .i64 (F.pE1 l code)), []))
      | none => .fail)
    | _ => .fail)
  | _, _ => .fail

theorem pchk_t0 (code : Int) (l : List (Int × Int × Int × Int × Int × Int)) (t0 t1 l_t : Bool) : symF C_pfits [] Try.f82.results.toList 3 1000 [.code (codeOf Try.f82)] ⟨argsS Try.f82 [.c (.slc 0 0 1 t0), .c (.slc 1 0 1 t1)], ([.rblk [.slc 2 0 (List.length l) l_t], .inp 0 [code], .inp 2 l] : Heap cod)⟩ =
.need ((0 = 0 ∧ List.length l = List.length l)) (
 cond (!decide (F.tubeE l = 0)) (
 .ret (.fin (.c (.int .i64 (F.tubeE l))) [])) (
 .need (((0 : Int) ≤ 0 ∧ (0 : Int) < Int.ofNat 1)) (
 .need ((0 + Int.toNat 0 : Nat) < 1) (
 cond (decide (code < 0)) (
  .ret (.fin (.c (.int .i64 4)) [])) (
  .need (((0 : Int) ≤ 0 ∧ (0 : Int) < Int.ofNat 1)) (
  .need ((0 + Int.toNat 0 : Nat) < 1) (
  cond (decide (4095 < code)) (
   .ret (.fin (.c (.int .i64 4)) [])) (
   .need (i64ok (0 + 1)) (
   .ret (.fin (.c (.int .i64 0)) [])))))))))) := by kernel_rfl



theorem pchk_run (code : Int) (l : List (Int × Int × Int × Int × Int × Int)) (t0 t1 l_t : Bool) (b0 : Base) (hb : b0.n = 3) : Sym.Runs Try.prog b0 [.code (codeOf Try.f82)] ⟨argsS Try.f82 [.c (.slc 0 0 1 t0), .c (.slc 1 0 1 t1)], ([.rblk [.slc 2 0 (List.length l) l_t], .inp 0 [code], .inp 2 l] : Heap cod)⟩ (Sym.Ends Try.prog Try.f82 3 (.c (.int .i64 (F.pE1 l code))) []) := by
  refine Runs.go (cfg := C_pfits) L_pfits_ok mixed [] 1000 hb (pchk_t0 code l t0 t1 l_t) ?_
  have i1 : i64ok (0 + 1) := ⟨by decide, by decide⟩
  unfold F.pE1 F.inb
  by_cases h1 : F.tubeE l = 0 <;> by_cases h2 : code < 0 <;> by_cases h3 : 4095 < code <;> simp [T.wp, T.wp_cond, Aft, h1, h2, h3, i1] <;> first | done | exact i1 | omega
theorem pchk_sound : Sound Try.prog cod 82 s_pchk := sound_runs (cfg := C_pfits) L_pfits_ok mixed Try.func82 rfl rfl _ fun args H r news hg b0 hb => by
  unfold s_pchk at hg
  split at hg
  · skip
    split at hg
    · rename_i code hx1
      cases asInp_spec hx1
      split at hg
      · rename_i l hx2
        cases asInp_spec hx2
        simp only [T.gives, T.wp, Prod.mk.injEq] at hg
        obtain ⟨⟨rfl, rfl⟩, rfl, rfl⟩ := hg
        exact pchk_run code l _ _ _ b0 hb
      · exact hg.elim
    · exact hg.elim
  · exact hg.elim

noncomputable def L_pchk : Sums cod := (82, .p s_pchk) :: L_pfits
noncomputable def C_pchk : Cfg cod := mkC L_pchk

theorem L_pchk_ok : Snd Try.prog cod L_pchk := .cons pchk_sound L_pfits_ok



noncomputable def s_pcosts : Summ cod := fun args H => match args, H with
  | [.c (.slc 0 0 1 _), .c (.slc 1 0 1 _), .c (.slc 2 0 1 _)], [o0, .rblk [.slc 3 li ln _], o2, o3] => (match o0.asInp 5 with
    | some [f] => (match o2.asInp 0 with
      | some [code] => (match o3.asInp 2 with
        | some l => .need (li = 0 ∧ ln = List.length l) (.ite (decide (F.pE l (f 2) (f 3) (f 4) (f 7) (f 9) (f 10) code = 0))
            (.ret (.tup [.c (.slc 4 0 1 false), .c (.int .i64 0)], [.pblk [.slc 5 0 1 true], .arr 0 [F.pcost l (f 2) (f 3) (f 4) (f 7) (f 9) (f 10) code] 3]))
            (.ret (.tup [.c .nil, .c (.int .i64 (F.pE l (f 2) (f 3) (f 4) (f 7) (f 9) (f 10) code))], [])))
        | none => .fail)
      | _ => .fail)
    | _ => .fail)
  | _, _ => .fail
noncomputable def st26 (f : Nat → Int) (code v : Int) (n : Int × Int × Int × Int × Int × Int) (l : List (Int × Int × Int × Int × Int × Int)) (t0 t1 t2 l_t : Bool) : St cod := ⟨tmG 96 [(9, .c (.slc 8 0 1 false))], ([.inp 5 [f], .rblk [.slc 3 0 (List.length l) l_t], .inp 0 [code], .inp 2 l, .blk [.int .i64 (f 0), .int .i64 (f 1), .int .i64 (f 2), .int .i64 (f 3), .int .i64 (f 4), .int .i64 (f 5), .int .i64 (f 6), .int .i64 (f 7), .int .i64 (f 8), .int .i64 (f 9), .int .i64 (f 10), .int .i64 (f 11), .int .i64 (f 12)] 25, .arr 0 [v] 3, .blk [.int .i64 n.1, .int .i64 n.2.1, .int .i64 n.2.2.1, .int .i64 n.2.2.2.1, .int .i64 n.2.2.2.2.1, .int .i64 n.2.2.2.2.2] 92, .blk [.slc 5 0 1 true] 68, .pblk [.slc 5 0 1 true]] : Heap cod)⟩

theorem pcst_t0 (f : Nat → Int) (code : Int) (l : List (Int × Int × Int × Int × Int × Int)) (t0 t1 t2 l_t : Bool) : symF C_pchk [(100026, [9], 9)] Try.f52.results.toList 4 1000 [.code (codeOf Try.f52)] ⟨argsS Try.f52 [.c (.slc 0 0 1 t0), .c (.slc 1 0 1 t1), .c (.slc 2 0 1 t2)], ([.inp 5 [f], .rblk [.slc 3 0 (List.length l) l_t], .inp 0 [code], .inp 2 l] : Heap cod)⟩ =
.need ((0 = 0 ∧ List.length l = List.length l)) (
 cond (!decide (F.pE1 l code = 0)) (
 .ret (.fin (.tup [.c (.nil), .c (.int .i64 (F.pE1 l code))]) [])) (
 .need (((0 : Int) ≤ 0 ∧ (0 : Int) < Int.ofNat 1)) (
 .need ((0 + Int.toNat 0 : Nat) < 1) (
 cond (!decide (F.tpart (f 2) (f 3) (f 4) (f 7) (f 9) (f 10) = 0)) (
  .ret (.fin (.tup [.c (.nil), .c (.int .i64 (F.tpart (f 2) (f 3) (f 4) (f 7) (f 9) (f 10)))]) [])) (
  .need (((0 : Int) ≤ Int.ofNat 1 ∧ ((Int.ofNat 1 : Int) ≤ 1000000 ∧ (Int.ofNat 1 : Int) = Int.ofNat 1))) (
  .need (((0 = 0 ∧ List.length l = List.length l) ∧ F.tpOk (f 2) (f 3) (f 4) (f 7) (f 9) (f 10))) (
  cond (!F.pfit l (f 2) (f 3) (f 4) (f 7) (f 9)) (
   .need (((0 : Int) ≤ 0 ∧ (0 : Int) < Int.ofNat (Int.toNat (Int.ofNat 1)))) (
   .need ((0 + Int.toNat 0 : Nat) < 1) (
   .need (i64ok (0 + 1)) (
   .need (i64ok (0 + 1)) (
   .ret (.cut (regAt Try.f52 26) ⟨tmG 96 [(9, .c (.slc 8 0 1 false))], [.inp 5 [f], .rblk [.slc 3 0 (List.length l) l_t], .inp 0 [code], .inp 2 l, .blk [.int .i64 (f 0), .int .i64 (f 1), .int .i64 (f 2), .int .i64 (f 3), .int .i64 (f 4), .int .i64 (f 5), .int .i64 (f 6), .int .i64 (f 7), .int .i64 (f 8), .int .i64 (f 9), .int .i64 (f 10), .int .i64 (f 11), .int .i64 (f 12)] 25, .arr 0 (List.set [0] (0 + Int.toNat 0) (-1) : List Int) 3, .blk [.int .i64 ((F.atR l (f 2)).1), .int .i64 ((F.atR l (f 2)).2.1), .int .i64 ((F.atR l (f 2)).2.2.1), .int .i64 ((F.atR l (f 2)).2.2.2.1), .int .i64 ((F.atR l (f 2)).2.2.2.2.1), .int .i64 ((F.atR l (f 2)).2.2.2.2.2)] 92, .blk [.slc 5 0 1 true] 68, .pblk [.slc 5 0 1 true]]⟩)))))) (
   cond (!decide (f 10 = -1)) (
    .need (((0 : Int) ≤ 0 ∧ (0 : Int) < Int.ofNat 1)) (
    .need ((0 + Int.toNat 0 : Nat) < 1) (
    cond (!decide (f 10 = code)) (
     .need (((0 : Int) ≤ 0 ∧ (0 : Int) < Int.ofNat (Int.toNat (Int.ofNat 1)))) (
     .need ((0 + Int.toNat 0 : Nat) < 1) (
     .need (i64ok (0 + 1)) (
     .need (i64ok (0 + 1)) (
     .ret (.cut (regAt Try.f52 26) ⟨tmG 96 [(9, .c (.slc 8 0 1 false))], [.inp 5 [f], .rblk [.slc 3 0 (List.length l) l_t], .inp 0 [code], .inp 2 l, .blk [.int .i64 (f 0), .int .i64 (f 1), .int .i64 (f 2), .int .i64 (f 3), .int .i64 (f 4), .int .i64 (f 5), .int .i64 (f 6), .int .i64 (f 7), .int .i64 (f 8), .int .i64 (f 9), .int .i64 (f 10), .int .i64 (f 11), .int .i64 (f 12)] 25, .arr 0 (List.set [0] (0 + Int.toNat 0) (-1) : List Int) 3, .blk [.int .i64 ((F.atR l (f 2)).1), .int .i64 ((F.atR l (f 2)).2.1), .int .i64 ((F.atR l (f 2)).2.2.1), .int .i64 ((F.atR l (f 2)).2.2.2.1), .int .i64 ((F.atR l (f 2)).2.2.2.2.1), .int .i64 ((F.atR l (f 2)).2.2.2.2.2)] 92, .blk [.slc 5 0 1 true] 68, .pblk [.slc 5 0 1 true]]⟩)))))) (
     cond (decide (f 10 = -1)) (
      .need ((F.b9 (f 3) ∧ (F.b9 (f 4) ∧ (F.b9 (F.atR l (f 2)).2.1 ∧ F.b9 (F.atR l (f 2)).2.2.1)))) (
      .need ((10000 : Int) ≠ 0) (
      .need (i64ok (Int.tdiv (F.far (f 3) (f 4) (F.atR l (f 2)).2.1 (F.atR l (f 2)).2.2.1) 10000)) (
      .need (i64ok (Int.tdiv (F.far (f 3) (f 4) (F.atR l (f 2)).2.1 (F.atR l (f 2)).2.2.1) 10000 + 1048576)) (
      .need (((0 : Int) ≤ 0 ∧ (0 : Int) < Int.ofNat (Int.toNat (Int.ofNat 1)))) (
      .need ((0 + Int.toNat 0 : Nat) < 1) (
      .need (i64ok (0 + 1)) (
      .need (i64ok (0 + 1)) (
      .ret (.cut (regAt Try.f52 26) ⟨tmG 96 [(9, .c (.slc 8 0 1 false))], [.inp 5 [f], .rblk [.slc 3 0 (List.length l) l_t], .inp 0 [code], .inp 2 l, .blk [.int .i64 (f 0), .int .i64 (f 1), .int .i64 (f 2), .int .i64 (f 3), .int .i64 (f 4), .int .i64 (f 5), .int .i64 (f 6), .int .i64 (f 7), .int .i64 (f 8), .int .i64 (f 9), .int .i64 (f 10), .int .i64 (f 11), .int .i64 (f 12)] 25, .arr 0 (List.set [0] (0 + Int.toNat 0) (Int.tdiv (F.far (f 3) (f 4) (F.atR l (f 2)).2.1 (F.atR l (f 2)).2.2.1) 10000 + 1048576) : List Int) 3, .blk [.int .i64 ((F.atR l (f 2)).1), .int .i64 ((F.atR l (f 2)).2.1), .int .i64 ((F.atR l (f 2)).2.2.1), .int .i64 ((F.atR l (f 2)).2.2.2.1), .int .i64 ((F.atR l (f 2)).2.2.2.2.1), .int .i64 ((F.atR l (f 2)).2.2.2.2.2)] 92, .blk [.slc 5 0 1 true] 68, .pblk [.slc 5 0 1 true]]⟩)))))))))) (
      .need ((F.b9 (f 3) ∧ (F.b9 (f 4) ∧ (F.b9 (F.atR l (f 2)).2.1 ∧ F.b9 (F.atR l (f 2)).2.2.1)))) (
      .need ((10000 : Int) ≠ 0) (
      .need (i64ok (Int.tdiv (F.far (f 3) (f 4) (F.atR l (f 2)).2.1 (F.atR l (f 2)).2.2.1) 10000)) (
      .need (((0 : Int) ≤ 0 ∧ (0 : Int) < Int.ofNat (Int.toNat (Int.ofNat 1)))) (
      .need ((0 + Int.toNat 0 : Nat) < 1) (
      .need (i64ok (0 + 1)) (
      .need (i64ok (0 + 1)) (
      .ret (.cut (regAt Try.f52 26) ⟨tmG 96 [(9, .c (.slc 8 0 1 false))], [.inp 5 [f], .rblk [.slc 3 0 (List.length l) l_t], .inp 0 [code], .inp 2 l, .blk [.int .i64 (f 0), .int .i64 (f 1), .int .i64 (f 2), .int .i64 (f 3), .int .i64 (f 4), .int .i64 (f 5), .int .i64 (f 6), .int .i64 (f 7), .int .i64 (f 8), .int .i64 (f 9), .int .i64 (f 10), .int .i64 (f 11), .int .i64 (f 12)] 25, .arr 0 (List.set [0] (0 + Int.toNat 0) (Int.tdiv (F.far (f 3) (f 4) (F.atR l (f 2)).2.1 (F.atR l (f 2)).2.2.1) 10000) : List Int) 3, .blk [.int .i64 ((F.atR l (f 2)).1), .int .i64 ((F.atR l (f 2)).2.1), .int .i64 ((F.atR l (f 2)).2.2.1), .int .i64 ((F.atR l (f 2)).2.2.2.1), .int .i64 ((F.atR l (f 2)).2.2.2.2.1), .int .i64 ((F.atR l (f 2)).2.2.2.2.2)] 92, .blk [.slc 5 0 1 true] 68, .pblk [.slc 5 0 1 true]]⟩))))))))))))) (
    cond (decide (f 10 = -1)) (
     .need ((F.b9 (f 3) ∧ (F.b9 (f 4) ∧ (F.b9 (F.atR l (f 2)).2.1 ∧ F.b9 (F.atR l (f 2)).2.2.1)))) (
     .need ((10000 : Int) ≠ 0) (
     .need (i64ok (Int.tdiv (F.far (f 3) (f 4) (F.atR l (f 2)).2.1 (F.atR l (f 2)).2.2.1) 10000)) (
     .need (i64ok (Int.tdiv (F.far (f 3) (f 4) (F.atR l (f 2)).2.1 (F.atR l (f 2)).2.2.1) 10000 + 1048576)) (
     .need (((0 : Int) ≤ 0 ∧ (0 : Int) < Int.ofNat (Int.toNat (Int.ofNat 1)))) (
     .need ((0 + Int.toNat 0 : Nat) < 1) (
     .need (i64ok (0 + 1)) (
     .need (i64ok (0 + 1)) (
     .ret (.cut (regAt Try.f52 26) ⟨tmG 96 [(9, .c (.slc 8 0 1 false))], [.inp 5 [f], .rblk [.slc 3 0 (List.length l) l_t], .inp 0 [code], .inp 2 l, .blk [.int .i64 (f 0), .int .i64 (f 1), .int .i64 (f 2), .int .i64 (f 3), .int .i64 (f 4), .int .i64 (f 5), .int .i64 (f 6), .int .i64 (f 7), .int .i64 (f 8), .int .i64 (f 9), .int .i64 (f 10), .int .i64 (f 11), .int .i64 (f 12)] 25, .arr 0 (List.set [0] (0 + Int.toNat 0) (Int.tdiv (F.far (f 3) (f 4) (F.atR l (f 2)).2.1 (F.atR l (f 2)).2.2.1) 10000 + 1048576) : List Int) 3, .blk [.int .i64 ((F.atR l (f 2)).1), .int .i64 ((F.atR l (f 2)).2.1), .int .i64 ((F.atR l (f 2)).2.2.1), .int .i64 ((F.atR l (f 2)).2.2.2.1), .int .i64 ((F.atR l (f 2)).2.2.2.2.1), .int .i64 ((F.atR l (f 2)).2.2.2.2.2)] 92, .blk [.slc 5 0 1 true] 68, .pblk [.slc 5 0 1 true]]⟩)))))))))) (
     .need ((F.b9 (f 3) ∧ (F.b9 (f 4) ∧ (F.b9 (F.atR l (f 2)).2.1 ∧ F.b9 (F.atR l (f 2)).2.2.1)))) (
     .need ((10000 : Int) ≠ 0) (
     .need (i64ok (Int.tdiv (F.far (f 3) (f 4) (F.atR l (f 2)).2.1 (F.atR l (f 2)).2.2.1) 10000)) (
     .need (((0 : Int) ≤ 0 ∧ (0 : Int) < Int.ofNat (Int.toNat (Int.ofNat 1)))) (
     .need ((0 + Int.toNat 0 : Nat) < 1) (
     .need (i64ok (0 + 1)) (
     .need (i64ok (0 + 1)) (
     .ret (.cut (regAt Try.f52 26) ⟨tmG 96 [(9, .c (.slc 8 0 1 false))], [.inp 5 [f], .rblk [.slc 3 0 (List.length l) l_t], .inp 0 [code], .inp 2 l, .blk [.int .i64 (f 0), .int .i64 (f 1), .int .i64 (f 2), .int .i64 (f 3), .int .i64 (f 4), .int .i64 (f 5), .int .i64 (f 6), .int .i64 (f 7), .int .i64 (f 8), .int .i64 (f 9), .int .i64 (f 10), .int .i64 (f 11), .int .i64 (f 12)] 25, .arr 0 (List.set [0] (0 + Int.toNat 0) (Int.tdiv (F.far (f 3) (f 4) (F.atR l (f 2)).2.1 (F.atR l (f 2)).2.2.1) 10000) : List Int) 3, .blk [.int .i64 ((F.atR l (f 2)).1), .int .i64 ((F.atR l (f 2)).2.1), .int .i64 ((F.atR l (f 2)).2.2.1), .int .i64 ((F.atR l (f 2)).2.2.2.1), .int .i64 ((F.atR l (f 2)).2.2.2.2.1), .int .i64 ((F.atR l (f 2)).2.2.2.2.2)] 92, .blk [.slc 5 0 1 true] 68, .pblk [.slc 5 0 1 true]]⟩)))))))))))))))))) := by kernel_rfl


theorem pcst_t26 (f : Nat → Int) (code v : Int) (n : Int × Int × Int × Int × Int × Int) (l : List (Int × Int × Int × Int × Int × Int)) (t0 t1 t2 l_t : Bool) : symF C_pchk [] Try.f52.results.toList 4 1000 (regAt Try.f52 26) (st26 f code v n l t0 t1 t2 l_t) =
.ret (.fin (.tup [.c (.slc 4 0 1 false), .c (.int .i64 0)]) [.pblk [.slc 5 0 1 true], .arr 0 [v] 3]) := by kernel_rfl



theorem F.far_bd {x y u v : Int} (hx : -1000000 ≤ x ∧ x ≤ 1000000) (hy : -1000000 ≤ y ∧ y ≤ 1000000) (hu : -1000000 ≤ u ∧ u ≤ 1000000) (hv : -1000000 ≤ v ∧ v ≤ 1000000) : 0 ≤ (F.far x y u v).tdiv 10000 ∧ (F.far x y u v).tdiv 10000 ≤ 10000000000000 := by
  have h1 := sq_bd (x := x - u) (a := 2000000) (by omega)
  have h2 := sq_bd (x := y - v) (a := 2000000) (by omega)
  unfold F.far
  rw [Int.tdiv_eq_ediv_of_nonneg (by omega)]
  omega
theorem pcst_run (f : Nat → Int) (code : Int) (l : List (Int × Int × Int × Int × Int × Int)) (t0 t1 t2 l_t : Bool) (b0 : Base) (hb : b0.n = 4) (R : SV) (N : Heap cod)
    (g1 : F.pE l (f 2) (f 3) (f 4) (f 7) (f 9) (f 10) code = 0 → .tup [.c (.slc 4 0 1 false), .c (.int .i64 0)] = R ∧ [.pblk [.slc 5 0 1 true], .arr 0 [F.pcost l (f 2) (f 3) (f 4) (f 7) (f 9) (f 10) code] 3] = N)
    (g2 : ¬ F.pE l (f 2) (f 3) (f 4) (f 7) (f 9) (f 10) code = 0 → .tup [.c .nil, .c (.int .i64 (F.pE l (f 2) (f 3) (f 4) (f 7) (f 9) (f 10) code))] = R ∧ [] = N) : Sym.Runs Try.prog b0 [.code (codeOf Try.f52)] ⟨argsS Try.f52 [.c (.slc 0 0 1 t0), .c (.slc 1 0 1 t1), .c (.slc 2 0 1 t2)], ([.inp 5 [f], .rblk [.slc 3 0 (List.length l) l_t], .inp 0 [code], .inp 2 l] : Heap cod)⟩ (Sym.Ends Try.prog Try.f52 4 R N) := by
  refine Runs.go (cfg := C_pchk) L_pchk_ok mixed [(100026, [9], 9)] 1000 hb (pcst_t0 f code l t0 t1 t2 l_t) ?_
  have i1 : i64ok (0 + 1) := ⟨by decide, by decide⟩
  have i2 : i64ok 1 := ⟨by decide, by decide⟩
  by_cases h1 : F.pE1 l code = 0
  rotate_left
  · have e : F.pE l (f 2) (f 3) (f 4) (f 7) (f 9) (f 10) code = F.pE1 l code := by unfold F.pE; rw [if_neg h1]
    rw [e] at g2
    simp only [T.wp, T.wp_cond, Aft]
    exact ⟨(by first | exact ⟨rfl, rfl⟩ | exact ⟨trivial, trivial⟩), ite_yes' (by simp [h1]) (g2 h1)⟩
  have e : F.pE l (f 2) (f 3) (f 4) (f 7) (f 9) (f 10) code = F.tpart (f 2) (f 3) (f 4) (f 7) (f 9) (f 10) := by unfold F.pE; rw [if_pos h1]
  rw [e] at g1 g2
  by_cases h2 : F.tpart (f 2) (f 3) (f 4) (f 7) (f 9) (f 10) = 0
  rotate_left
  · simp only [T.wp, T.wp_cond, Aft]
    exact ⟨(by first | exact ⟨rfl, rfl⟩ | exact ⟨trivial, trivial⟩), ite_no' (by simp [h1]) ⟨⟨by decide, by decide⟩, by decide, ite_yes' (by simp [h2]) (g2 h2)⟩⟩
  obtain ⟨rfl, rfl⟩ := g1 h2
  have b := F.tpart_bd h2
  obtain ⟨⟨d1, d2⟩, d3, d4, d5⟩ := atR_bd l (f 2)
  have fb := F.far_bd b.2.1 b.2.2.1 d1 d2
  have w1 : i64ok ((F.far (f 3) (f 4) (F.atR l (f 2)).2.1 (F.atR l (f 2)).2.2.1).tdiv 10000) := by unfold i64ok; omega
  have w2 : i64ok ((F.far (f 3) (f 4) (F.atR l (f 2)).2.1 (F.atR l (f 2)).2.2.1).tdiv 10000 + 1048576) := by unfold i64ok; omega
  have w3 : F.b9 (f 3) ∧ F.b9 (f 4) ∧ F.b9 (F.atR l (f 2)).2.1 ∧ F.b9 (F.atR l (f 2)).2.2.1 := by unfold F.b9; omega
  have K : ∀ v : Int, v = F.pcost l (f 2) (f 3) (f 4) (f 7) (f 9) (f 10) code → Sym.Runs Try.prog b0 (regAt Try.f52 26) (st26 f code v (F.atR l (f 2)) l t0 t1 t2 l_t) (Sym.Ends Try.prog Try.f52 4 (.tup [.c (.slc 4 0 1 false), .c (.int .i64 0)]) [.pblk [.slc 5 0 1 true], .arr 0 [F.pcost l (f 2) (f 3) (f 4) (f 7) (f 9) (f 10) code] 3]) := by
    intro v hv
    subst hv
    refine Runs.go (cfg := C_pchk) L_pchk_ok mixed [] 1000 hb (pcst_t26 f code _ (F.atR l (f 2)) l t0 t1 t2 l_t) ?_
    exact ⟨rfl, rfl⟩
  have hb1 : (0 : Int) ≤ 0 ∧ (0 : Int) < Int.ofNat 1 := ⟨by decide, by decide⟩
  have hb2 : (0 : Int) ≤ 0 ∧ (0 : Int) < Int.ofNat (Int.toNat (Int.ofNat 1)) := ⟨by decide, by decide⟩
  have hb3 : (0 + Int.toNat 0 : Nat) < 1 := by decide
  have hb4 : (10000 : Int) ≠ 0 := by decide
  simp only [T.wp, T.wp_cond, Aft]
  refine ⟨(by first | exact ⟨rfl, rfl⟩ | exact ⟨trivial, trivial⟩), ite_no' (by simp [h1]) ⟨hb1, hb3, ite_no' (by simp [h2]) ⟨⟨by decide, by decide, trivial⟩, ⟨(by first | exact ⟨rfl, rfl⟩ | exact ⟨trivial, trivial⟩), h2⟩, ?_⟩⟩⟩
  cases hp : F.pfit l (f 2) (f 3) (f 4) (f 7) (f 9)
  · refine ite_yes' rfl ⟨hb2, hb3, i1, i1, K _ ?_⟩
    unfold F.pcost
    rw [hp]
    rfl
  · refine ite_no' (by simp) ?_
    by_cases h3 : f 10 = -1
    · refine ite_no' (by simp [h3]) (ite_yes' (by simp [h3]) ⟨w3, hb4, w1, w2, hb2, hb3, i1, i1, K _ ?_⟩)
      unfold F.pcost
      rw [hp, h3]
      rfl
    · refine ite_yes' (by simp [h3]) ⟨hb1, hb3, ?_⟩
      by_cases h4 : f 10 = code
      · refine ite_no' (by simp [h4]) (ite_no' (by simp [h3]) ⟨w3, hb4, w1, hb2, hb3, i1, i1, K _ ?_⟩)
        unfold F.pcost
        rw [hp, h4]
        rw [h4] at h3
        simp [h3]
      · refine ite_yes' (by simp [h4]) ⟨hb2, hb3, i1, i1, K _ ?_⟩
        unfold F.pcost
        rw [hp]
        simp [h3, h4]
theorem pcosts_sound : Sound Try.prog cod 52 s_pcosts := sound_runs (cfg := C_pchk) L_pchk_ok mixed Try.func52 rfl rfl _ fun args H r news hg b0 hb => by
  unfold s_pcosts at hg
  split at hg
  · skip
    split at hg
    · rename_i f hx0
      cases asInp_spec hx0
      split at hg
      · rename_i code hx1
        cases asInp_spec hx1
        split at hg
        · rename_i l hx2
          cases asInp_spec hx2
          simp only [T.gives, T.wp, Prod.mk.injEq, decide_eq_true_eq, decide_eq_false_iff_not] at hg
          obtain ⟨⟨rfl, rfl⟩, g1, g2⟩ := hg
          exact pcst_run f code l _ _ _ _ b0 hb r news g1 g2
        · exact hg.elim
      · exact hg.elim
    · exact hg.elim
  · exact hg.elim

noncomputable def L_pcosts : Sums cod := (52, .p s_pcosts) :: L_pchk
noncomputable def C_pcosts : Cfg cod := mkC L_pcosts

theorem L_pcosts_ok : Snd Try.prog cod L_pcosts := .cons pcosts_sound L_pchk_ok



theorem F.far_comm (x y u v : Int) : F.far x y u v = F.far u v x y := by
  unfold F.far
  have e1 : (x - u) * (x - u) = (u - x) * (u - x) := by rw [show x - u = -(u - x) by omega, Int.neg_mul_neg]
  have e2 : (y - v) * (y - v) = (v - y) * (v - y) := by rw [show y - v = -(v - y) by omega, Int.neg_mul_neg]
  rw [e1, e2]
theorem F.apart_max (a b : Int) : F.apart a b = max (a - b) (b - a) := by
  unfold F.apart
  split <;> omega
theorem F.pE_zero {l : List F.Nd} {t x y h ra c code : Int} (hE : F.pE l t x y h ra c code = 0) : F.tubeE l = 0 ∧ F.inb code 0 4095 = true ∧ F.tpart t x y h ra c = 0 := by
  unfold F.pE F.pE1 at hE
  by_cases h1 : F.tubeE l = 0
  · cases h2 : F.inb code 0 4095
    · simp [h1, h2] at hE
    · simp [h1, h2] at hE
      exact ⟨h1, rfl, hE⟩
  · simp [h1] at hE
theorem F.pfit_eq {l : List F.Nd} {t x y h ra c : Int} (hz : F.tpart t x y h ra c = 0) : F.pfit l t x y h ra = (decide (F.atE l t = 0) && (!decide (((F.atR l t).2.2.2.2.1 + ra) * ((F.atR l t).2.2.2.2.1 + ra) < F.far (F.atR l t).2.1 (F.atR l t).2.2.1 x y) && !decide ((F.atR l t).2.2.2.2.2 + 100 < F.apart (F.atR l t).2.2.2.1 h))) := by
  have b := F.tpart_bd hz
  obtain ⟨⟨d1, d2⟩, d3, d4, d5⟩ := atR_bd l t
  unfold F.pfit
  have e1 : F.inb ((F.atR l t).2.2.2.2.1 + ra) 0 8000000 = true := by
    unfold F.inb
    simp only [Bool.and_eq_true, decide_eq_true_eq]
    omega
  rw [e1, Bool.true_and, F.apart_max]
  congr 2
  · rw [Bool.eq_iff_iff]; simp
  · rw [Bool.eq_iff_iff]; simp


def cuts_pclaw : Cuts := [(100008, [3, 2, 1], 2)]
def cuts_pclaw_r8 : Cuts := []

theorem pclaw_t0 (i st t x y sx sy h r ra c hi mi : Int) (l : List (Int × Int × Int × Int × Int × Int)) (l_t : Bool) (code : Int) : symF C_pcosts cuts_pclaw Try.f10.results.toList 1 2000 [.code (codeOf Try.f10)] ⟨argsS Try.f10 [.agg [.int .i64 i, .int .i64 st, .int .i64 t, .int .i64 x, .int .i64 y, .int .i64 sx, .int .i64 sy, .int .i64 h, .int .i64 r, .int .i64 ra, .int .i64 c, .int .i64 hi, .int .i64 mi], .c (.slc 0 0 (List.length l) l_t), .c (.int .i64 code)], ([.inp 2 l] : Heap cod)⟩ =
.need ((0 = 0 ∧ 1 = 1)) (
.ite (decide   (F.pE [(0, 0, 0, 0, 10, 0)] (Int.ofNat 0) (Int.ofNat 0) (Int.ofNat 0) (Int.ofNat 0) (Int.ofNat 0) (Int.ofNat 7) 7 = 0)) (
 .need (((0 : Int) ≤ 0 ∧ (0 : Int) < Int.ofNat 1)) (
 .need ((0 + Int.toNat 0 : Nat) < 1) (
 .need ((0 = 0 ∧ 1 = 1)) (
 .ite (decide   (F.pE [(0, 0, 0, 0, 10, 0)] (Int.ofNat 0) (Int.ofNat 0) (Int.ofNat 0) (Int.ofNat 0) (Int.ofNat 0) (Int.ofNat 7) 8 = 0)) (
  .need (((0 : Int) ≤ 0 ∧ (0 : Int) < Int.ofNat 1)) (
  .need ((0 + Int.toNat 0 : Nat) < 1) (
  .ret (.cut (regAt Try.f10 8) ⟨tmG 204 [(1, .c (.slc 0 0 (List.length l) l_t)), (0, .c (.int .i64 code)), (0, .c (.ptr 1 0 0))], [.inp 2 l, .blk [.int .i64 i, .int .i64 st, .int .i64 t, .int .i64 x, .int .i64 y, .int .i64 sx, .int .i64 sy, .int .i64 h, .int .i64 r, .int .i64 ra, .int .i64 c, .int .i64 hi, .int .i64 mi] 25]⟩)))) (
  .ret (.fin (.c (.bool false)) [])))))) (
 .ret (.fin (.c (.bool false)) []))) := by kernel_rfl


noncomputable def st_pclaw_r8 (i st t x y sx sy h r ra c hi mi : Int) (l : List (Int × Int × Int × Int × Int × Int)) (l_t : Bool) (code : Int) (w : Int) : St cod := ⟨tmG 204 [(1, .c (.slc 0 0 (List.length l) l_t)), (0, .c (.int .i64 code)), (0, .c (.ptr 1 0 0))], [.inp 2 l, .blk [.int .i64 i, .int .i64 st, .int .i64 t, .int .i64 x, .int .i64 y, .int .i64 sx, .int .i64 sy, .int .i64 h, .int .i64 r, .int .i64 ra, .int .i64 c, .int .i64 hi, .int .i64 mi] 25]⟩


theorem pclaw_tr8 (i st t x y sx sy h r ra c hi mi : Int) (l : List (Int × Int × Int × Int × Int × Int)) (l_t : Bool) (code : Int) (w : Int) : symF C_pcosts cuts_pclaw_r8 Try.f10.results.toList 1 2000 (regAt Try.f10 8) (st_pclaw_r8 i st t x y sx sy h r ra c hi mi l l_t code w) =
.need ((0 = 0 ∧ List.length l = List.length l)) (
.ite (decide (F.pE l t x y h ra c code = 0)) (
 .need ((0 = 0 ∧ List.length l = List.length l)) (
 cond (decide (F.tubeE l = 0)) (
  cond (!F.inb code 0 4095) (
   .ret (.fin (.c (.bool false)) [])) (
   cond (decide (F.tubeE l = 0)) (
    cond (!decide (F.tpart t x y h ra c = 0)) (
     cond (decide (0 = F.tpart t x y h ra c)) (
      .ret (.fin (.c (.bool (decide (Int.ofNat 1 = 0)))) [])) (
      .ret (.fin (.c (.bool false)) []))) (
     .need ((0 = 0 ∧ List.length l = List.length l)) (
     .need ((F.b9 (F.atR l t).2.1 ∧ (F.b9 (F.atR l t).2.2.1 ∧ (F.b9 x ∧ F.b9 y)))) (
     cond (!decide (F.atE l t = 0)) (
      .need (((0 : Int) ≤ 0 ∧ (0 : Int) < Int.ofNat 1)) (
      .need ((0 + Int.toNat 0 : Nat) < 1) (
      .ret (.fin (.c (.bool (decide (F.pcost l t x y h ra c code = -1)))) [])))) (
      .need (i64ok ((F.atR l t).2.2.2.2.1 + ra)) (
      .need (i64ok ((F.atR l t).2.2.2.2.1 + ra)) (
      .need (i64ok (((F.atR l t).2.2.2.2.1 + ra) * ((F.atR l t).2.2.2.2.1 + ra))) (
      cond (decide (((F.atR l t).2.2.2.2.1 + ra) * ((F.atR l t).2.2.2.2.1 + ra) < F.far (F.atR l t).2.1 (F.atR l t).2.2.1 x y)) (
       .need (((0 : Int) ≤ 0 ∧ (0 : Int) < Int.ofNat 1)) (
       .need ((0 + Int.toNat 0 : Nat) < 1) (
       .ret (.fin (.c (.bool (decide (F.pcost l t x y h ra c code = -1)))) [])))) (
       .need (i64ok (F.apart (F.atR l t).2.2.2.1 h)) (
       .need (i64ok ((F.atR l t).2.2.2.2.2 + 100)) (
       cond (decide ((F.atR l t).2.2.2.2.2 + 100 < F.apart (F.atR l t).2.2.2.1 h)) (
        .need (((0 : Int) ≤ 0 ∧ (0 : Int) < Int.ofNat 1)) (
        .need ((0 + Int.toNat 0 : Nat) < 1) (
        .ret (.fin (.c (.bool (decide (F.pcost l t x y h ra c code = -1)))) [])))) (
        cond (!decide (c = -1)) (
         cond (!decide (c = code)) (
          .need (((0 : Int) ≤ 0 ∧ (0 : Int) < Int.ofNat 1)) (
          .need ((0 + Int.toNat 0 : Nat) < 1) (
          .ret (.fin (.c (.bool (decide (F.pcost l t x y h ra c code = -1)))) [])))) (
          cond (decide (c = -1)) (
           .need (((0 : Int) ≤ 0 ∧ (0 : Int) < Int.ofNat 1)) (
           .need ((0 + Int.toNat 0 : Nat) < 1) (
           .need ((10000 : Int) ≠ 0) (
           .need (i64ok (Int.tdiv (F.far (F.atR l t).2.1 (F.atR l t).2.2.1 x y) 10000)) (
           .need (i64ok (Int.tdiv (F.far (F.atR l t).2.1 (F.atR l t).2.2.1 x y) 10000 + 1048576)) (
           .ret (.fin (.c (.bool (decide (F.pcost l t x y h ra c code = Int.tdiv (F.far (F.atR l t).2.1 (F.atR l t).2.2.1 x y) 10000 + 1048576)))) []))))))) (
           .need (((0 : Int) ≤ 0 ∧ (0 : Int) < Int.ofNat 1)) (
           .need ((0 + Int.toNat 0 : Nat) < 1) (
           .need ((10000 : Int) ≠ 0) (
           .need (i64ok (Int.tdiv (F.far (F.atR l t).2.1 (F.atR l t).2.2.1 x y) 10000)) (
           .ret (.fin (.c (.bool (decide (F.pcost l t x y h ra c code = Int.tdiv (F.far (F.atR l t).2.1 (F.atR l t).2.2.1 x y) 10000)))) [])))))))) (
         cond (decide (c = -1)) (
          .need (((0 : Int) ≤ 0 ∧ (0 : Int) < Int.ofNat 1)) (
          .need ((0 + Int.toNat 0 : Nat) < 1) (
          .need ((10000 : Int) ≠ 0) (
          .need (i64ok (Int.tdiv (F.far (F.atR l t).2.1 (F.atR l t).2.2.1 x y) 10000)) (
          .need (i64ok (Int.tdiv (F.far (F.atR l t).2.1 (F.atR l t).2.2.1 x y) 10000 + 1048576)) (
          .ret (.fin (.c (.bool (decide (F.pcost l t x y h ra c code = Int.tdiv (F.far (F.atR l t).2.1 (F.atR l t).2.2.1 x y) 10000 + 1048576)))) []))))))) (
          .need (((0 : Int) ≤ 0 ∧ (0 : Int) < Int.ofNat 1)) (
          .need ((0 + Int.toNat 0 : Nat) < 1) (
          .need ((10000 : Int) ≠ 0) (
          .need (i64ok (Int.tdiv (F.far (F.atR l t).2.1 (F.atR l t).2.2.1 x y) 10000)) (
          .ret (.fin (.c (.bool (decide (F.pcost l t x y h ra c code = Int.tdiv (F.far (F.atR l t).2.1 (F.atR l t).2.2.1 x y) 10000)))) []))))))))))))))))))) (
    cond (!decide (F.tubeE l = 0)) (
     cond (decide (0 = F.tubeE l)) (
      .ret (.fin (.c (.bool (decide (Int.ofNat 1 = 0)))) [])) (
      .ret (.fin (.c (.bool false)) []))) (
     .need ((0 = 0 ∧ List.length l = List.length l)) (
     .need ((F.b9 (F.atR l t).2.1 ∧ (F.b9 (F.atR l t).2.2.1 ∧ (F.b9 x ∧ F.b9 y)))) (
     cond (!decide (F.atE l t = 0)) (
      .need (((0 : Int) ≤ 0 ∧ (0 : Int) < Int.ofNat 1)) (
      .need ((0 + Int.toNat 0 : Nat) < 1) (
      .ret (.fin (.c (.bool (decide (F.pcost l t x y h ra c code = -1)))) [])))) (
      .need (i64ok ((F.atR l t).2.2.2.2.1 + ra)) (
      .need (i64ok ((F.atR l t).2.2.2.2.1 + ra)) (
      .need (i64ok (((F.atR l t).2.2.2.2.1 + ra) * ((F.atR l t).2.2.2.2.1 + ra))) (
      cond (decide (((F.atR l t).2.2.2.2.1 + ra) * ((F.atR l t).2.2.2.2.1 + ra) < F.far (F.atR l t).2.1 (F.atR l t).2.2.1 x y)) (
       .need (((0 : Int) ≤ 0 ∧ (0 : Int) < Int.ofNat 1)) (
       .need ((0 + Int.toNat 0 : Nat) < 1) (
       .ret (.fin (.c (.bool (decide (F.pcost l t x y h ra c code = -1)))) [])))) (
       .need (i64ok (F.apart (F.atR l t).2.2.2.1 h)) (
       .need (i64ok ((F.atR l t).2.2.2.2.2 + 100)) (
       cond (decide ((F.atR l t).2.2.2.2.2 + 100 < F.apart (F.atR l t).2.2.2.1 h)) (
        .need (((0 : Int) ≤ 0 ∧ (0 : Int) < Int.ofNat 1)) (
        .need ((0 + Int.toNat 0 : Nat) < 1) (
        .ret (.fin (.c (.bool (decide (F.pcost l t x y h ra c code = -1)))) [])))) (
        cond (!decide (c = -1)) (
         cond (!decide (c = code)) (
          .need (((0 : Int) ≤ 0 ∧ (0 : Int) < Int.ofNat 1)) (
          .need ((0 + Int.toNat 0 : Nat) < 1) (
          .ret (.fin (.c (.bool (decide (F.pcost l t x y h ra c code = -1)))) [])))) (
          cond (decide (c = -1)) (
           .need (((0 : Int) ≤ 0 ∧ (0 : Int) < Int.ofNat 1)) (
           .need ((0 + Int.toNat 0 : Nat) < 1) (
           .need ((10000 : Int) ≠ 0) (
           .need (i64ok (Int.tdiv (F.far (F.atR l t).2.1 (F.atR l t).2.2.1 x y) 10000)) (
           .need (i64ok (Int.tdiv (F.far (F.atR l t).2.1 (F.atR l t).2.2.1 x y) 10000 + 1048576)) (
           .ret (.fin (.c (.bool (decide (F.pcost l t x y h ra c code = Int.tdiv (F.far (F.atR l t).2.1 (F.atR l t).2.2.1 x y) 10000 + 1048576)))) []))))))) (
           .need (((0 : Int) ≤ 0 ∧ (0 : Int) < Int.ofNat 1)) (
           .need ((0 + Int.toNat 0 : Nat) < 1) (
           .need ((10000 : Int) ≠ 0) (
           .need (i64ok (Int.tdiv (F.far (F.atR l t).2.1 (F.atR l t).2.2.1 x y) 10000)) (
           .ret (.fin (.c (.bool (decide (F.pcost l t x y h ra c code = Int.tdiv (F.far (F.atR l t).2.1 (F.atR l t).2.2.1 x y) 10000)))) [])))))))) (
         cond (decide (c = -1)) (
          .need (((0 : Int) ≤ 0 ∧ (0 : Int) < Int.ofNat 1)) (
          .need ((0 + Int.toNat 0 : Nat) < 1) (
          .need ((10000 : Int) ≠ 0) (
          .need (i64ok (Int.tdiv (F.far (F.atR l t).2.1 (F.atR l t).2.2.1 x y) 10000)) (
          .need (i64ok (Int.tdiv (F.far (F.atR l t).2.1 (F.atR l t).2.2.1 x y) 10000 + 1048576)) (
          .ret (.fin (.c (.bool (decide (F.pcost l t x y h ra c code = Int.tdiv (F.far (F.atR l t).2.1 (F.atR l t).2.2.1 x y) 10000 + 1048576)))) []))))))) (
          .need (((0 : Int) ≤ 0 ∧ (0 : Int) < Int.ofNat 1)) (
          .need ((0 + Int.toNat 0 : Nat) < 1) (
          .need ((10000 : Int) ≠ 0) (
          .need (i64ok (Int.tdiv (F.far (F.atR l t).2.1 (F.atR l t).2.2.1 x y) 10000)) (
          .ret (.fin (.c (.bool (decide (F.pcost l t x y h ra c code = Int.tdiv (F.far (F.atR l t).2.1 (F.atR l t).2.2.1 x y) 10000)))) []))))))))))))))))))))) (
  cond (decide (F.tubeE l = 0)) (
   cond (!decide (F.tpart t x y h ra c = 0)) (
    cond (decide (0 = F.tpart t x y h ra c)) (
     .ret (.fin (.c (.bool (decide (Int.ofNat 1 = 0)))) [])) (
     .ret (.fin (.c (.bool false)) []))) (
    .need ((0 = 0 ∧ List.length l = List.length l)) (
    .need ((F.b9 (F.atR l t).2.1 ∧ (F.b9 (F.atR l t).2.2.1 ∧ (F.b9 x ∧ F.b9 y)))) (
    cond (!decide (F.atE l t = 0)) (
     .need (((0 : Int) ≤ 0 ∧ (0 : Int) < Int.ofNat 1)) (
     .need ((0 + Int.toNat 0 : Nat) < 1) (
     .ret (.fin (.c (.bool (decide (F.pcost l t x y h ra c code = -1)))) [])))) (
     .need (i64ok ((F.atR l t).2.2.2.2.1 + ra)) (
     .need (i64ok ((F.atR l t).2.2.2.2.1 + ra)) (
     .need (i64ok (((F.atR l t).2.2.2.2.1 + ra) * ((F.atR l t).2.2.2.2.1 + ra))) (
     cond (decide (((F.atR l t).2.2.2.2.1 + ra) * ((F.atR l t).2.2.2.2.1 + ra) < F.far (F.atR l t).2.1 (F.atR l t).2.2.1 x y)) (
      .need (((0 : Int) ≤ 0 ∧ (0 : Int) < Int.ofNat 1)) (
      .need ((0 + Int.toNat 0 : Nat) < 1) (
      .ret (.fin (.c (.bool (decide (F.pcost l t x y h ra c code = -1)))) [])))) (
      .need (i64ok (F.apart (F.atR l t).2.2.2.1 h)) (
      .need (i64ok ((F.atR l t).2.2.2.2.2 + 100)) (
      cond (decide ((F.atR l t).2.2.2.2.2 + 100 < F.apart (F.atR l t).2.2.2.1 h)) (
       .need (((0 : Int) ≤ 0 ∧ (0 : Int) < Int.ofNat 1)) (
       .need ((0 + Int.toNat 0 : Nat) < 1) (
       .ret (.fin (.c (.bool (decide (F.pcost l t x y h ra c code = -1)))) [])))) (
       cond (!decide (c = -1)) (
        cond (!decide (c = code)) (
         .need (((0 : Int) ≤ 0 ∧ (0 : Int) < Int.ofNat 1)) (
         .need ((0 + Int.toNat 0 : Nat) < 1) (
         .ret (.fin (.c (.bool (decide (F.pcost l t x y h ra c code = -1)))) [])))) (
         cond (decide (c = -1)) (
          .need (((0 : Int) ≤ 0 ∧ (0 : Int) < Int.ofNat 1)) (
          .need ((0 + Int.toNat 0 : Nat) < 1) (
          .need ((10000 : Int) ≠ 0) (
          .need (i64ok (Int.tdiv (F.far (F.atR l t).2.1 (F.atR l t).2.2.1 x y) 10000)) (
          .need (i64ok (Int.tdiv (F.far (F.atR l t).2.1 (F.atR l t).2.2.1 x y) 10000 + 1048576)) (
          .ret (.fin (.c (.bool (decide (F.pcost l t x y h ra c code = Int.tdiv (F.far (F.atR l t).2.1 (F.atR l t).2.2.1 x y) 10000 + 1048576)))) []))))))) (
          .need (((0 : Int) ≤ 0 ∧ (0 : Int) < Int.ofNat 1)) (
          .need ((0 + Int.toNat 0 : Nat) < 1) (
          .need ((10000 : Int) ≠ 0) (
          .need (i64ok (Int.tdiv (F.far (F.atR l t).2.1 (F.atR l t).2.2.1 x y) 10000)) (
          .ret (.fin (.c (.bool (decide (F.pcost l t x y h ra c code = Int.tdiv (F.far (F.atR l t).2.1 (F.atR l t).2.2.1 x y) 10000)))) [])))))))) (
        cond (decide (c = -1)) (
         .need (((0 : Int) ≤ 0 ∧ (0 : Int) < Int.ofNat 1)) (
         .need ((0 + Int.toNat 0 : Nat) < 1) (
         .need ((10000 : Int) ≠ 0) (
         .need (i64ok (Int.tdiv (F.far (F.atR l t).2.1 (F.atR l t).2.2.1 x y) 10000)) (
         .need (i64ok (Int.tdiv (F.far (F.atR l t).2.1 (F.atR l t).2.2.1 x y) 10000 + 1048576)) (
         .ret (.fin (.c (.bool (decide (F.pcost l t x y h ra c code = Int.tdiv (F.far (F.atR l t).2.1 (F.atR l t).2.2.1 x y) 10000 + 1048576)))) []))))))) (
         .need (((0 : Int) ≤ 0 ∧ (0 : Int) < Int.ofNat 1)) (
         .need ((0 + Int.toNat 0 : Nat) < 1) (
         .need ((10000 : Int) ≠ 0) (
         .need (i64ok (Int.tdiv (F.far (F.atR l t).2.1 (F.atR l t).2.2.1 x y) 10000)) (
         .ret (.fin (.c (.bool (decide (F.pcost l t x y h ra c code = Int.tdiv (F.far (F.atR l t).2.1 (F.atR l t).2.2.1 x y) 10000)))) []))))))))))))))))))) (
   cond (!decide (F.tubeE l = 0)) (
    cond (decide (0 = F.tubeE l)) (
     .ret (.fin (.c (.bool (decide (Int.ofNat 1 = 0)))) [])) (
     .ret (.fin (.c (.bool false)) []))) (
    .need ((0 = 0 ∧ List.length l = List.length l)) (
    .need ((F.b9 (F.atR l t).2.1 ∧ (F.b9 (F.atR l t).2.2.1 ∧ (F.b9 x ∧ F.b9 y)))) (
    cond (!decide (F.atE l t = 0)) (
     .need (((0 : Int) ≤ 0 ∧ (0 : Int) < Int.ofNat 1)) (
     .need ((0 + Int.toNat 0 : Nat) < 1) (
     .ret (.fin (.c (.bool (decide (F.pcost l t x y h ra c code = -1)))) [])))) (
     .need (i64ok ((F.atR l t).2.2.2.2.1 + ra)) (
     .need (i64ok ((F.atR l t).2.2.2.2.1 + ra)) (
     .need (i64ok (((F.atR l t).2.2.2.2.1 + ra) * ((F.atR l t).2.2.2.2.1 + ra))) (
     cond (decide (((F.atR l t).2.2.2.2.1 + ra) * ((F.atR l t).2.2.2.2.1 + ra) < F.far (F.atR l t).2.1 (F.atR l t).2.2.1 x y)) (
      .need (((0 : Int) ≤ 0 ∧ (0 : Int) < Int.ofNat 1)) (
      .need ((0 + Int.toNat 0 : Nat) < 1) (
      .ret (.fin (.c (.bool (decide (F.pcost l t x y h ra c code = -1)))) [])))) (
      .need (i64ok (F.apart (F.atR l t).2.2.2.1 h)) (
      .need (i64ok ((F.atR l t).2.2.2.2.2 + 100)) (
      cond (decide ((F.atR l t).2.2.2.2.2 + 100 < F.apart (F.atR l t).2.2.2.1 h)) (
       .need (((0 : Int) ≤ 0 ∧ (0 : Int) < Int.ofNat 1)) (
       .need ((0 + Int.toNat 0 : Nat) < 1) (
       .ret (.fin (.c (.bool (decide (F.pcost l t x y h ra c code = -1)))) [])))) (
       cond (!decide (c = -1)) (
        cond (!decide (c = code)) (
         .need (((0 : Int) ≤ 0 ∧ (0 : Int) < Int.ofNat 1)) (
         .need ((0 + Int.toNat 0 : Nat) < 1) (
         .ret (.fin (.c (.bool (decide (F.pcost l t x y h ra c code = -1)))) [])))) (
         cond (decide (c = -1)) (
          .need (((0 : Int) ≤ 0 ∧ (0 : Int) < Int.ofNat 1)) (
          .need ((0 + Int.toNat 0 : Nat) < 1) (
          .need ((10000 : Int) ≠ 0) (
          .need (i64ok (Int.tdiv (F.far (F.atR l t).2.1 (F.atR l t).2.2.1 x y) 10000)) (
          .need (i64ok (Int.tdiv (F.far (F.atR l t).2.1 (F.atR l t).2.2.1 x y) 10000 + 1048576)) (
          .ret (.fin (.c (.bool (decide (F.pcost l t x y h ra c code = Int.tdiv (F.far (F.atR l t).2.1 (F.atR l t).2.2.1 x y) 10000 + 1048576)))) []))))))) (
          .need (((0 : Int) ≤ 0 ∧ (0 : Int) < Int.ofNat 1)) (
          .need ((0 + Int.toNat 0 : Nat) < 1) (
          .need ((10000 : Int) ≠ 0) (
          .need (i64ok (Int.tdiv (F.far (F.atR l t).2.1 (F.atR l t).2.2.1 x y) 10000)) (
          .ret (.fin (.c (.bool (decide (F.pcost l t x y h ra c code = Int.tdiv (F.far (F.atR l t).2.1 (F.atR l t).2.2.1 x y) 10000)))) [])))))))) (
        cond (decide (c = -1)) (
         .need (((0 : Int) ≤ 0 ∧ (0 : Int) < Int.ofNat 1)) (
         .need ((0 + Int.toNat 0 : Nat) < 1) (
         .need ((10000 : Int) ≠ 0) (
         .need (i64ok (Int.tdiv (F.far (F.atR l t).2.1 (F.atR l t).2.2.1 x y) 10000)) (
         .need (i64ok (Int.tdiv (F.far (F.atR l t).2.1 (F.atR l t).2.2.1 x y) 10000 + 1048576)) (
         .ret (.fin (.c (.bool (decide (F.pcost l t x y h ra c code = Int.tdiv (F.far (F.atR l t).2.1 (F.atR l t).2.2.1 x y) 10000 + 1048576)))) []))))))) (
         .need (((0 : Int) ≤ 0 ∧ (0 : Int) < Int.ofNat 1)) (
         .need ((0 + Int.toNat 0 : Nat) < 1) (
         .need ((10000 : Int) ≠ 0) (
         .need (i64ok (Int.tdiv (F.far (F.atR l t).2.1 (F.atR l t).2.2.1 x y) 10000)) (
         .ret (.fin (.c (.bool (decide (F.pcost l t x y h ra c code = Int.tdiv (F.far (F.atR l t).2.1 (F.atR l t).2.2.1 x y) 10000)))) [])))))))))))))))))))))) (
 .need ((0 = 0 ∧ List.length l = List.length l)) (
 cond (decide (F.tubeE l = 0)) (
  cond (!F.inb code 0 4095) (
   cond (decide (F.pE l t x y h ra c code = 4)) (
    .ret (.fin (.c (.bool (decide (0 = 0)))) [])) (
    .ret (.fin (.c (.bool false)) []))) (
   cond (decide (F.tubeE l = 0)) (
    cond (!decide (F.tpart t x y h ra c = 0)) (
     cond (decide (F.pE l t x y h ra c code = F.tpart t x y h ra c)) (
      .ret (.fin (.c (.bool (decide (0 = 0)))) [])) (
      .ret (.fin (.c (.bool false)) []))) (
     cond (!decide (F.pE l t x y h ra c code = 0)) (
      .ret (.fin (.c (.bool false)) [])) (
      .ret (.fin (.c (.bool false)) [])))) (
    cond (!decide (F.tubeE l = 0)) (
     cond (decide (F.pE l t x y h ra c code = F.tubeE l)) (
      .ret (.fin (.c (.bool (decide (0 = 0)))) [])) (
      .ret (.fin (.c (.bool false)) []))) (
     cond (!decide (F.pE l t x y h ra c code = 0)) (
      .ret (.fin (.c (.bool false)) [])) (
      .ret (.fin (.c (.bool false)) [])))))) (
  cond (decide (F.tubeE l = 0)) (
   cond (!decide (F.tpart t x y h ra c = 0)) (
    cond (decide (F.pE l t x y h ra c code = F.tpart t x y h ra c)) (
     .ret (.fin (.c (.bool (decide (0 = 0)))) [])) (
     .ret (.fin (.c (.bool false)) []))) (
    cond (!decide (F.pE l t x y h ra c code = 0)) (
     .ret (.fin (.c (.bool false)) [])) (
     .ret (.fin (.c (.bool false)) [])))) (
   cond (!decide (F.tubeE l = 0)) (
    cond (decide (F.pE l t x y h ra c code = F.tubeE l)) (
     .ret (.fin (.c (.bool (decide (0 = 0)))) [])) (
     .ret (.fin (.c (.bool false)) []))) (
    cond (!decide (F.pE l t x y h ra c code = 0)) (
     .ret (.fin (.c (.bool false)) [])) (
     .ret (.fin (.c (.bool false)) [])))))))) := by kernel_rfl



theorem pclaw8 (i st t x y sx sy h r ra c hi mi : Int) (l : List F.Nd) (l_t : Bool) (code w : Int) (b0 : Base) (hb : b0.n = 1) : Sym.Runs Try.prog b0 (regAt Try.f10 8) (st_pclaw_r8 i st t x y sx sy h r ra c hi mi l l_t code w) (Sym.Ends Try.prog Try.f10 1 (.c (.bool true)) []) := by
  refine Runs.go (cfg := C_pcosts) L_pcosts_ok mixed cuts_pclaw_r8 2000 hb (pclaw_tr8 i st t x y sx sy h r ra c hi mi l l_t code w) ?_
  simp only [T.wp, T.wp_cond, Aft, decide_eq_true_eq, decide_eq_false_iff_not]
  refine ⟨by first | exact ⟨rfl, rfl⟩ | exact ⟨trivial, trivial⟩, fun hE => ⟨by first | exact ⟨rfl, rfl⟩ | exact ⟨trivial, trivial⟩, ?_⟩, fun hE => ⟨by first | exact ⟨rfl, rfl⟩ | exact ⟨trivial, trivial⟩, ?_⟩⟩
  · obtain ⟨a1, a2, a3⟩ := F.pE_zero hE
    have b := F.tpart_bd a3
    have hf := F.pfit_eq (l := l) a3
    obtain ⟨⟨d1, d2⟩, d3, d4, d5⟩ := atR_bd l t
    have fb := F.far_bd d1 d2 b.2.1 b.2.2.1
    have w1 : i64ok ((F.far (F.atR l t).2.1 (F.atR l t).2.2.1 x y).tdiv 10000) := by unfold i64ok; omega
    have w2 : i64ok ((F.far (F.atR l t).2.1 (F.atR l t).2.2.1 x y).tdiv 10000 + 1048576) := by unfold i64ok; omega
    have w3 : F.b9 (F.atR l t).2.1 ∧ F.b9 (F.atR l t).2.2.1 ∧ F.b9 x ∧ F.b9 y := by unfold F.b9; omega
    have w4 : i64ok ((F.atR l t).2.2.2.2.1 + ra) := by unfold i64ok; omega
    have w5 : i64ok (((F.atR l t).2.2.2.2.1 + ra) * ((F.atR l t).2.2.2.2.1 + ra)) := by
      have := sq_bd (x := (F.atR l t).2.2.2.2.1 + ra) (a := 8000000) (by omega)
      unfold i64ok
      omega
    have w6 : i64ok (F.apart (F.atR l t).2.2.2.1 h) := by rw [F.apart_max]; unfold i64ok; omega
    have w7 : i64ok ((F.atR l t).2.2.2.2.2 + 100) := by unfold i64ok; omega
    have hc : F.far x y (F.atR l t).2.1 (F.atR l t).2.2.1 = F.far (F.atR l t).2.1 (F.atR l t).2.2.1 x y := F.far_comm ..
    have hp : F.pcost l t x y h ra c code = (if F.pfit l t x y h ra && (decide (c = -1) || decide (c = code)) then (if c = -1 then (F.far (F.atR l t).2.1 (F.atR l t).2.2.1 x y).tdiv 10000 + 1048576 else (F.far (F.atR l t).2.1 (F.atR l t).2.2.1 x y).tdiv 10000) else -1) := by unfold F.pcost; rw [hc]
    rw [hf] at hp
    generalize F.pcost l t x y h ra c code = P at *
    generalize (F.far (F.atR l t).2.1 (F.atR l t).2.2.1 x y).tdiv 10000 = D at *
    generalize F.far (F.atR l t).2.1 (F.atR l t).2.2.1 x y = G at *
    generalize F.apart (F.atR l t).2.2.2.1 h = U at *
    generalize hS : ((F.atR l t).2.2.2.2.1 + ra) * ((F.atR l t).2.2.2.2.1 + ra) = S at *
    by_cases h1 : F.atE l t = 0 <;> by_cases h2 : S < G <;> by_cases h3 : (F.atR l t).2.2.2.2.2 + 100 < U <;> by_cases h4 : c = -1 <;> by_cases h5 : c = code <;> simp_all <;> first | omega | (split <;> first | omega | (intro _; omega))
  · unfold F.pE F.pE1 at hE
    unfold F.pE F.pE1
    by_cases h1 : F.tubeE l = 0
    · cases h2 : F.inb code 0 4095
      · simp_all
      · simp_all
    · simp_all
theorem pclaw_run (i st t x y sx sy h r ra c hi mi : Int) (l : List (Int × Int × Int × Int × Int × Int)) (l_t : Bool) (code : Int) (b0 : Base) (hb : b0.n = 1)  : Sym.Runs Try.prog b0 [.code (codeOf Try.f10)] ⟨argsS Try.f10 [.agg [.int .i64 i, .int .i64 st, .int .i64 t, .int .i64 x, .int .i64 y, .int .i64 sx, .int .i64 sy, .int .i64 h, .int .i64 r, .int .i64 ra, .int .i64 c, .int .i64 hi, .int .i64 mi], .c (.slc 0 0 (List.length l) l_t), .c (.int .i64 code)], ([.inp 2 l] : Heap cod)⟩ (Sym.Ends Try.prog Try.f10 1 (.c (.bool true)) []) := by
  have p1 : F.pE [(0, 0, 0, 0, 10, 0)] (Int.ofNat 0) (Int.ofNat 0) (Int.ofNat 0) (Int.ofNat 0) (Int.ofNat 0) (Int.ofNat 7) 7 = 0 := by kernel_rfl
  have p2 : F.pE [(0, 0, 0, 0, 10, 0)] (Int.ofNat 0) (Int.ofNat 0) (Int.ofNat 0) (Int.ofNat 0) (Int.ofNat 0) (Int.ofNat 7) 8 = 0 := by kernel_rfl
  refine Runs.go (cfg := C_pcosts) L_pcosts_ok mixed cuts_pclaw 2000 hb (pclaw_t0 i st t x y sx sy h r ra c hi mi l l_t code) ?_
  simp only [T.wp, T.wp_cond, Aft, decide_eq_true_eq, decide_eq_false_iff_not]
  refine ⟨by first | exact ⟨rfl, rfl⟩ | exact ⟨trivial, trivial⟩, fun _ => ⟨⟨by decide, by decide⟩, by decide, by first | exact ⟨rfl, rfl⟩ | exact ⟨trivial, trivial⟩, fun _ => ⟨⟨by decide, by decide⟩, by decide, ?_⟩, fun h => absurd p2 h⟩, fun h => absurd p1 h⟩
  exact pclaw8 i st t x y sx sy h r ra c hi mi l l_t code 0 b0 hb



noncomputable def s_pclaw : Summ cod := fun args H => match args, H with
  | [.agg [.int .i64 i, .int .i64 st, .int .i64 t, .int .i64 x, .int .i64 y, .int .i64 sx, .int .i64 sy, .int .i64 h, .int .i64 r, .int .i64 ra, .int .i64 c, .int .i64 hi, .int .i64 mi], .c (.slc 0 l_i l_n l_t), .c (.int .i64 code)], [o0] => (match o0.asInp 2 with | some l => .need ((l_i = 0 ∧ l_n = List.length l)) (.ret (.c (.bool true), [])) | none => .fail)
  | _, _ => .fail


theorem pclaw_sound : Sound Try.prog cod 10 s_pclaw := sound_runs (cfg := C_pcosts) L_pcosts_ok mixed Try.func10 rfl rfl _ fun args H r news hg b0 hb => by
  unfold s_pclaw at hg
  split at hg
  · skip
    split at hg
    · rename_i l hx0
      cases asInp_spec hx0
      simp only [T.gives, T.wp, Prod.mk.injEq] at hg
      obtain ⟨⟨rfl, rfl⟩, rfl, rfl⟩ := hg
      exact pclaw_run _ _ _ _ _ _ _ _ _ _ _ _ _ _ _ _ b0 hb 
    · exact hg.elim
  · exact hg.elim

noncomputable def L_pclaw : Sums cod := (10, .p s_pclaw) :: L_pcosts
noncomputable def C_pclaw : Cfg cod := mkC L_pclaw

theorem L_pclaw_ok : Snd Try.prog cod L_pclaw := .cons pclaw_sound L_pcosts_ok



end
end Go.Proofs.Ythljcjighomgkaa
