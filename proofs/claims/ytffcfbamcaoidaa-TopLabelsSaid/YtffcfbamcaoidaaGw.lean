/- Part of a claim: lemmas on the way to its theorem; each states its own conditions. -/
import Derived.Test.YtffcfbamcaoidaaGv
namespace Go.Proofs.Ytffcfbamcaoidaa
open Sym Go.RowKit
noncomputable section
set_option maxRecDepth 100000
set_option maxHeartbeats 4000000

namespace F
def placeB (l : List Q4) : Bool := decide (lchk l = 0) && (decide (l.length ≤ 6) && (decide (l.length ≠ 0) && srchB l l.length [] []))
def placeR (l : List Q4) : List Int := srchR l l.length [] []
def placeE (l : List Q4) : Int := if lchk l = 0 then (if 6 < l.length then 2 else (if l.length = 0 then 0 else 8)) else lchk l
end F
noncomputable def s_lplace : Summ cod := fun args H => match args, H with
  | [.c (.slc 0 li ln lt)], [o0] => (match o0.asInp 4 with
    | some l => .need ((li = 0 ∧ ln = List.length l) ∧ F.l64 l)
          (.ite (F.placeB l) (.ret (.tup [.c (.slc 1 0 (List.length (F.placeR l)) false), .c (.int .i64 0)], [.own 0 (F.placeR l) 3])) (.ret (.tup [.c (.own 1 0), .c (.int .i64 (F.placeE l))], [.own 0 [] 3])))
    | none => .fail)
  | _, _ => .fail
def cuts_lplace : Cuts := []

theorem lplace_t0 (l : List (Int × Int × Int × Int)) (l_t : Bool) : symF C_lcheck cuts_lplace Try.f30.results.toList 1 400 [.code (codeOf Try.f30)] ⟨argsS Try.f30 [.c (.slc 0 0 (List.length l) l_t)], ([.inp 4 l] : Heap cod)⟩ =
.need (((0 = 0 ∧ List.length l = List.length l) ∧ F.l64 l)) (
 cond (!decide (F.lchk l = 0)) (
 .ret (.fin (.tup [.c (.own 1 0), .c (.int .i64 (F.lchk l))]) [.own 0 [] 3])) (
 cond (decide (6 < Int.ofNat (List.length l))) (
  .ret (.fin (.tup [.c (.own 1 0), .c (.int .i64 2)]) [.own 0 [] 3])) (
  cond (decide (Int.ofNat (List.length l) = 0)) (
   .ret (.fin (.tup [.c (.own 1 0), .c (.int .i64 0)]) [.own 0 [] 3])) (
   .need (((0 = 0 ∧ List.length l = List.length l) ∧ ((0 : Nat) < List.length l ∧ (List.length l ≤ 6 ∧ F.allok l)))) (
   .ite (F.srchB l (List.length l) [] []) (
    .need ((0 : Nat) < List.length (F.srchR l (List.length l) [] [])) (
    .ret (.fin (.tup [.c (.slc 1 0 (List.length (F.srchR l (List.length l) [] [])) false), .c (.int .i64 0)]) [.own 0 (F.srchR l (List.length l) [] []) 3]))) (
    .need (True) (
    .ret (.fin (.tup [.c (.own 1 0), .c (.int .i64 8)]) [.own 0 [] 3])))))))) := by kernel_rfl



theorem F.lck_zero {l : List F.Q4} : ∀ (m j : Nat), j + m = l.length → F.lck l m j = 0 → ∀ i, j ≤ i → i < l.length → F.lin (l.getD i F.q0) = true
  | 0, j, hm, _, i, h1, h2 => by omega
  | m + 1, j, hm, h, i, h1, h2 => by
    rw [F.lck] at h
    split at h
    · rename_i hl
      by_cases e : i = j
      · rw [e]; exact hl
      · exact F.lck_zero m (j + 1) (by omega) h i (by omega) h2
    · exact absurd h (by decide)
theorem F.allok_of {l : List F.Q4} (h : F.lchk l = 0) : F.allok l := by
  unfold F.lchk at h
  split at h
  · exact absurd h (by decide)
  · intro x hx
    obtain ⟨i, hi, rfl⟩ := List.getElem_of_mem hx
    have := F.lck_zero l.length 0 (by omega) h i (by omega) hi
    rw [List.getD, List.getElem?_eq_getElem hi] at this
    simp only [Option.getD_some, F.lin, Bool.and_eq_true, decide_eq_true_eq] at this
    obtain ⟨a, b, c, d⟩ := this
    exact ⟨a, b, c, d⟩
theorem F.srchR_len {l : List F.Q4} {d : Nat} (h : F.srchB l d [] [] = true) : (F.srchR l d [] []).length = d := by
  unfold F.srchB at h
  cases hs : F.srch l d [] [] with
  | none => rw [hs] at h; cases h
  | some r =>
    have := F.srch_len l d _ _ _ hs
    simp only [F.srchR, hs, Option.getD_some]
    simpa using this
theorem lplace_run (l : List F.Q4) (l_t : Bool) (b0 : Base) (hb0 : b0.n = 1) (h64 : F.l64 l) (R : SV) (N : Heap cod) (h1 : F.placeB l = true → .tup [.c (.slc 1 0 (List.length (F.placeR l)) false), .c (.int .i64 0)] = R ∧ [.own 0 (F.placeR l) 3] = N) (h2 : F.placeB l = false → .tup [.c (.own 1 0), .c (.int .i64 (F.placeE l))] = R ∧ [.own 0 [] 3] = N) : Sym.Runs Try.prog b0 [.code (codeOf Try.f30)] ⟨argsS Try.f30 [.c (.slc 0 0 (List.length l) l_t)], ([.inp 4 l] : Heap cod)⟩ (Sym.Ends Try.prog Try.f30 1 R N) := by
  refine Runs.go (cfg := C_lcheck) L_lcheck_ok mixed cuts_lplace 400 hb0 (lplace_t0 l l_t) ?_
  simp only [T.wp, T.wp_cond, Aft, Int.ofNat_eq_natCast, decide_eq_true_eq, and_true, true_and, Nat.zero_add, Bool.not_eq_true', decide_eq_false_iff_not]
  refine ⟨h64, ?_⟩
  unfold F.placeB F.placeE at *
  by_cases c1 : F.lchk l = 0
  · by_cases c2 : 6 < l.length
    · have c2' : (6 : Int) < (l.length : Int) := by omega
      have c3 : ¬ l.length ≤ 6 := by omega
      simp only [c1, c2, c2', c3, decide_false, Bool.false_and, Bool.and_false, if_true, not_true_eq_false, if_false] at h2 ⊢
      exact h2 trivial
    · have c2' : ¬ (6 : Int) < (l.length : Int) := by omega
      have c3 : l.length ≤ 6 := by omega
      by_cases c4 : l.length = 0
      · have c4' : (l.length : Int) = 0 := by omega
        simp only [c1, c2, c2', c4, c4', decide_true, decide_false, ne_eq, not_true_eq_false, Bool.false_and, Bool.and_false, if_true, if_false] at h2 ⊢
        exact h2 trivial
      · have c4' : ¬ (l.length : Int) = 0 := by omega
        simp only [c1, c2, c3, c2', c4, c4', decide_true, decide_false, ne_eq, not_true_eq_false, not_false_eq_true, Bool.true_and, if_true, if_false] at h1 h2 ⊢
        refine ⟨⟨by omega, trivial, F.allok_of c1⟩, fun h => ⟨?_, h1 h⟩, h2⟩
        have := F.srchR_len h
        omega
  · simp only [c1, decide_false, Bool.false_and, if_false, not_false_eq_true, if_true] at h2 ⊢
    exact h2 trivial
theorem lplace_sound : Sound Try.prog cod 30 s_lplace := sound_runs (cfg := C_lcheck) L_lcheck_ok mixed Try.func30 rfl rfl _ fun args H r news hg b0 hb => by
  unfold s_lplace at hg
  split at hg
  · skip
    split at hg
    · rename_i l hx0
      cases asInp_spec hx0
      simp only [T.gives, T.wp, Prod.mk.injEq] at hg
      obtain ⟨⟨⟨rfl, rfl⟩, h64⟩, g1, g2⟩ := hg
      exact lplace_run l _ b0 hb h64 r news g1 g2
    · exact hg.elim
  · exact hg.elim

noncomputable def L_lplace : Sums cod := (30, .p s_lplace) :: L_lcheck
noncomputable def C_lplace : Cfg cod := mkC L_lplace

theorem L_lplace_ok : Snd Try.prog cod L_lplace := .cons lplace_sound L_lcheck_ok


end
end Go.Proofs.Ytffcfbamcaoidaa
