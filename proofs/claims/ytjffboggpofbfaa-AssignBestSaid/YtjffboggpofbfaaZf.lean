/- Part of a claim: lemmas on the way to its theorem; each states its own conditions. -/
import Derived.Test.YtjffboggpofbfaaZd
namespace Go.Proofs.Ytjffboggpofbfaa
open Sym Go.RowKit
noncomputable section
set_option maxRecDepth 100000
set_option maxHeartbeats 4000000



namespace F
def tot (L : List (List Int)) (ms : Int) : Int := if cE L ms = 0 then lst ms L (List.replicate (L.getD 0 []).length false) else 0
end F


namespace F
theorem elE_ok : ∀ (q : List Int), elE q = 0 → ∀ c ∈ q, -1 ≤ c ∧ c ≤ 1099511627776
  | [], _, c, hc => by cases hc
  | a :: t, h, c, hc => by
    unfold elE at h
    split at h
    · cases h
    · rename_i h1
      rcases List.mem_cons.1 hc with e | e
      · subst e; omega
      · exact elE_ok t h c e
theorem rwsE_ok (n : Nat) : ∀ (L : List (List Int)), rwsE n L = 0 → ∀ r ∈ L, r.length = n ∧ r.length ≤ 32 ∧ ∀ c ∈ r, -1 ≤ c ∧ c ≤ 1099511627776
  | [], _, r, hr => by cases hr
  | a :: t, h, r, hr => by
    unfold rwsE at h
    split at h
    · rename_i h1
      rcases List.mem_cons.1 hr with e | e
      · subst e
        unfold rwE at h1
        split at h1
        · cases h1
        · split at h1
          · cases h1
          · exact ⟨by omega, by omega, elE_ok _ h1⟩
      · exact rwsE_ok n t h r e
    · rename_i h1
      exact absurd h h1
theorem cE_ok {L : List (List Int)} {ms : Int} (h : cE L ms = 0) : (∀ r ∈ L, r.length = (L.getD 0 []).length ∧ r.length ≤ 32 ∧ ∀ c ∈ r, -1 ≤ c ∧ c ≤ 1099511627776) ∧ 0 ≤ ms ∧ ms ≤ 1099511627776 := by
  unfold cE at h
  split at h
  · cases h
  · split at h
    · rename_i h1
      split at h
      · cases h
      · exact ⟨rwsE_ok _ L h1, by omega, by omega⟩
    · rename_i h1
      exact absurd h h1
theorem cE_need {L : List (List Int)} {ms : Int} (h : cE L ms = 0) (hl : L.length ≤ 5) {tk : List Bool} (ht : tk.length = (L.getD 0 []).length) (i : Nat) : rowsOk L tk ∧ tk.length ≤ 32 ∧ okC (L.drop i) ms tk := by
  obtain ⟨h1, h2, h3⟩ := cE_ok h
  refine ⟨fun r hr => by rw [ht]; exact (h1 r hr).1, ?_, fun r hr => ?_, h2, h3, by rw [List.length_drop]; omega⟩
  · rw [ht]
    cases L with
    | nil => exact Nat.zero_le _
    | cons a t => exact (h1 a (List.mem_cons_self ..)).2.1
  · have hm := List.mem_of_mem_drop hr
    refine ⟨by rw [ht]; exact (h1 r hm).1, fun k => ?_⟩
    rw [List.getD_eq_getElem?_getD]
    rcases Nat.lt_or_ge k r.length with c | c
    · rw [List.getElem?_eq_getElem c]
      exact ((h1 r hm).2.2 _ (List.getElem_mem c)).2
    · rw [List.getElem?_eq_none c]
      decide
end F


def cuts_tot : Cuts := []

theorem tot_t0 (L : List (List Int)) (L_t : Bool) (ms : Int) : symF C_lea cuts_tot Try.f6.results.toList 1 400 [.code (codeOf Try.f6)] ⟨argsS Try.f6 [.c (.slc 0 0 (List.length L) L_t), .c (.int .i64 ms)], ([.nin 0 L none] : Heap cod)⟩ =
.need ((0 = 0 ∧ List.length L = List.length L)) (
 cond (!decide (F.cE L ms = 0)) (
 .ret (.fin (.tup [.c (.int .i64 0), .c (.int .i64 (F.cE L ms))]) [])) (
 .need ((0 = 0 ∧ List.length L = List.length L)) (
 .need (((0 : Int) ≤ Int.ofNat (List.length (List.getD L 0 [])) ∧ (Int.ofNat (List.length (List.getD L 0 [])) ≤ 1000000 ∧ Int.ofNat (List.length (List.getD L 0 [])) = Int.ofNat (List.length (List.getD L 0 []))))) (
 .need (((0 = 0 ∧ List.length L = List.length L) ∧ ((0 = 0 ∧ Int.toNat (Int.ofNat (List.length (List.getD L 0 []))) =   List.length (List.replicate (Int.toNat (Int.ofNat (List.length (List.getD L 0 [])))) false)) ∧ (((0 : Int) ≤ 0 ∧ (0 : Int) ≤ Int.ofNat (List.length L)) ∧ (F.rowsOk L (List.replicate (Int.toNat (Int.ofNat (List.length (List.getD L 0 [])))) false) ∧ (List.length (List.replicate (Int.toNat (Int.ofNat (List.length (List.getD L 0 [])))) false) ≤ 32 ∧ F.okC (List.drop (Int.toNat 0) L) ms (List.replicate (Int.toNat (Int.ofNat (List.length (List.getD L 0 [])))) false))))))) (
 .ret (.fin (.tup [.c (.int .i64 (F.lst ms (List.drop (Int.toNat 0) L) (List.replicate (Int.toNat (Int.ofNat (List.length (List.getD L 0 [])))) false))), .c (.int .i64 0)]) [])))))) := by kernel_rfl



theorem tot_run (L : List (List Int)) (L_t : Bool) (ms : Int) (b0 : Base) (hb : b0.n = 1) (h0 : List.length L ≤ 5) : Sym.Runs Try.prog b0 [.code (codeOf Try.f6)] ⟨argsS Try.f6 [.c (.slc 0 0 (List.length L) L_t), .c (.int .i64 ms)], ([.nin 0 L none] : Heap cod)⟩ (Sym.Ends Try.prog Try.f6 1 (.tup [.c (.int .i64 (F.tot L ms)), .c (.int .i64 (F.cE L ms))]) []) := by
  refine Runs.go (cfg := C_lea) L_lea_ok mixed cuts_tot 400 hb (tot_t0 L L_t ms) ?_
  simp only [T.wp, T.wp_cond, Aft, Int.ofNat_eq_natCast, and_true, true_and, Bool.not_eq_true', decide_eq_false_iff_not]
  by_cases c : F.cE L ms = 0
  · refine ite_no (by rw [c]; decide) ?_
    have N := F.cE_need c h0 (tk := List.replicate (L.getD 0 []).length false) (by simp) 0
    have e1 : ((L.getD 0 []).length : Int).toNat = (L.getD 0 []).length := by omega
    have e2 : F.tot L ms = F.lst ms (List.drop (Int.toNat 0) L) (List.replicate (L.getD 0 []).length false) := by
      unfold F.tot
      rw [if_pos c]
      rfl
    rw [e1, e2, c]
    have n2 := N.2.1
    rw [List.length_replicate] at n2
    exact ⟨⟨by omega, by omega⟩, ⟨by simp, ⟨by omega, by omega⟩, N.1, N.2.1, N.2.2⟩, rfl⟩
  · refine ite_yes c ?_
    have e2 : F.tot L ms = 0 := by unfold F.tot; rw [if_neg c]
    rw [e2]



noncomputable def s_tot : Summ cod := fun args H => match args, H with
  | [.c (.slc 0 L_i L_n L_t), .c (.int .i64 ms)], [o0] => (match o0.asNin 0 with | some L => .need ((L_i = 0 ∧ L_n = List.length L) ∧ (List.length L ≤ 5)) (.ret (.tup [.c (.int .i64 (F.tot L ms)), .c (.int .i64 (F.cE L ms))], [])) | none => .fail)
  | _, _ => .fail


theorem tot_sound : Sound Try.prog cod 6 s_tot := sound_runs (cfg := C_lea) L_lea_ok mixed Try.func6 rfl rfl _ fun args H r news hg b0 hb => by
  unfold s_tot at hg
  split at hg
  · skip
    split at hg
    · rename_i L hx0
      cases asNin_spec hx0
      simp only [T.gives, T.wp, Prod.mk.injEq] at hg
      obtain ⟨⟨⟨rfl, rfl⟩, q1⟩, rfl, rfl⟩ := hg
      exact tot_run _ _ _ b0 hb (by assumption)
    · exact hg.elim
  · exact hg.elim

noncomputable def L_tot : Sums cod := (6, .p s_tot) :: L_lea
noncomputable def C_tot : Cfg cod := mkC L_tot

theorem L_tot_ok : Snd Try.prog cod L_tot := .cons tot_sound L_lea_ok


end
end Go.Proofs.Ytjffboggpofbfaa
