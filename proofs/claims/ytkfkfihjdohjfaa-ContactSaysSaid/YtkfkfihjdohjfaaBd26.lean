/- Parts of the proof, one behind the other: Tb, CoP. -/
import Derived.Test.YtkfkfihjdohjfaaTa
import Derived.Test.YtkfkfihjdohjfaaBd24
section
namespace Go.Proofs.Ytkfkfihjdohjfaa
open Sym Go.RowKit
noncomputable section
set_option maxRecDepth 100000
set_option maxHeartbeats 4000000



def cuts_isnan : Cuts := []

theorem isnan_t0 (s : List UInt8) : symF C_rnamed cuts_isnan Try.f60.results.toList 0 400 [.code (codeOf Try.f60)] ⟨argsS Try.f60 [.c (.str s)], ([] : Heap cod)⟩ =
.ret (.fin (.c (.bool (!decide (s = s)))) []) := by kernel_rfl



theorem isnan_run (s : List UInt8) (b0 : Base) (hb : b0.n = 0)  : Sym.Runs Try.prog b0 [.code (codeOf Try.f60)] ⟨argsS Try.f60 [.c (.str s)], ([] : Heap cod)⟩ (Sym.Ends Try.prog Try.f60 0 (.c (.bool false)) []) := by
  refine Runs.go (cfg := C_rnamed) L_rnamed_ok mixed cuts_isnan 400 hb (isnan_t0 s) ?_
  simp [T.wp, T.wp_cond, Aft, Int.ofNat_eq_natCast, decide_eq_true_eq, and_true, true_and, Nat.zero_add, Bool.not_eq_true', decide_eq_false_iff_not]



noncomputable def s_isnan : Summ cod := fun args H => match args, H with
  | [.c (.str s)], [] => .ret (.c (.bool false), [])
  | _, _ => .fail


theorem isnan_sound : Sound Try.prog cod 60 s_isnan := sound_runs (cfg := C_rnamed) L_rnamed_ok mixed Try.func60 rfl rfl _ fun args H r news hg b0 hb => by
  unfold s_isnan at hg
  split at hg
  · skip
    cases hg
    exact isnan_run _ b0 hb 
  · exact hg.elim

noncomputable def L_isnan : Sums cod := (60, .p s_isnan) :: L_rnamed
noncomputable def C_isnan : Cfg cod := mkC L_isnan

theorem L_isnan_ok : Snd Try.prog cod L_isnan := .cons isnan_sound L_rnamed_ok



def cuts_scmp : Cuts := []

theorem scmp_t0 (a : List UInt8) (b : List UInt8) : symF C_isnan cuts_scmp Try.f47.results.toList 0 400 [.code (codeOf Try.f47)] ⟨argsS Try.f47 [.c (.str a), .c (.str b)], ([] : Heap cod)⟩ =
 cond (Op.bytesLess a b) (
 .ret (.fin (.c (.int .i64 (-1))) [])) (
 cond (!(Op.bytesLess a b || decide (a = b))) (
  .ret (.fin (.c (.int .i64 1)) [])) (
  .ret (.fin (.c (.int .i64 0)) []))) := by kernel_rfl



theorem scmp_run (a : List UInt8) (b : List UInt8) (b0 : Base) (hb : b0.n = 0)  : Sym.Runs Try.prog b0 [.code (codeOf Try.f47)] ⟨argsS Try.f47 [.c (.str a), .c (.str b)], ([] : Heap cod)⟩ (Sym.Ends Try.prog Try.f47 0 (.c (.int .i64 (F.scmp a b))) []) := by
  refine Runs.go (cfg := C_isnan) L_isnan_ok mixed cuts_scmp 400 hb (scmp_t0 a b) ?_
  have e : (Op.bytesLess a b || decide (a = b)) = !Op.bytesLess b a := lt_not
  simp only [T.wp, T.wp_cond, Aft, Int.ofNat_eq_natCast, decide_eq_true_eq, and_true, true_and, Nat.zero_add, Bool.not_eq_true', decide_eq_false_iff_not, e]
  unfold F.scmp F.lt
  cases Op.bytesLess a b <;> cases Op.bytesLess b a <;> simp



noncomputable def s_scmp : Summ cod := fun args H => match args, H with
  | [.c (.str a), .c (.str b)], [] => .ret (.c (.int .i64 (F.scmp a b)), [])
  | _, _ => .fail


theorem scmp_sound : Sound Try.prog cod 47 s_scmp := sound_runs (cfg := C_isnan) L_isnan_ok mixed Try.func47 rfl rfl _ fun args H r news hg b0 hb => by
  unfold s_scmp at hg
  split at hg
  · skip
    cases hg
    exact scmp_run _ _ b0 hb 
  · exact hg.elim

noncomputable def L_scmp : Sums cod := (47, .p s_scmp) :: L_isnan
noncomputable def C_scmp : Cfg cod := mkC L_scmp

theorem L_scmp_ok : Snd Try.prog cod L_scmp := .cons scmp_sound L_isnan_ok



def cuts_orI : Cuts := [(3, [3, 6, 7, 8], 1)]

theorem orI_t0 (l : List Int) (l_t : Bool) : symF C_scmp cuts_orI Try.f46.results.toList 1 400 [.code (codeOf Try.f46)] ⟨argsS Try.f46 [.c (.slc 0 0 (List.length l) l_t)], ([.inp 0 l] : Heap cod)⟩ =
.ret (.cut (cutAt Try.f46 3) ⟨tmG 9 [(3, .c (.int .i64 0)), (2, .c (.slc 0 0 (List.length l) l_t)), (0, .c (.int .i64 (Int.ofNat (List.length l)))), (0, .c (.int .i64 0))], [.inp 0 l]⟩) := by kernel_rfl


noncomputable def st_orI_3 (l : List Int) (l_t : Bool) (k : Int) : St cod := ⟨tmG 9 [(3, .c (.int .i64 0)), (2, .c (.slc 0 0 (List.length l) l_t)), (0, .c (.int .i64 (Int.ofNat (List.length l)))), (0, .c (.int .i64 k))], [.inp 0 l]⟩


theorem orI_t3 (l : List Int) (l_t : Bool) (k : Int) : symF C_scmp cuts_orI Try.f46.results.toList 1 400 (cutAt Try.f46 3) (st_orI_3 l l_t k) =
 cond (decide (k < Int.ofNat (List.length l))) (
 .need (((0 : Int) ≤ k ∧ k < Int.ofNat (List.length l))) (
 .need (0 + Int.toNat k < List.length l) (
 cond (!decide (List.getD l (0 + Int.toNat k) (cod 0).d = 0)) (
  .ret (.fin (.c (.int .i64 (List.getD l (0 + Int.toNat k) (cod 0).d))) [])) (
  .need (i64ok (k + 1)) (
  .ret (.cut (cutAt Try.f46 3) ⟨tmG 9 [(3, .c (.int .i64 0)), (2, .c (.slc 0 0 (List.length l) l_t)), (0, .c (.int .i64 (Int.ofNat (List.length l)))), (0, .c (.int .i64 (k + 1)))], [.inp 0 l]⟩)))))) (
 .ret (.fin (.c (.int .i64 0)) [])) := by kernel_rfl



theorem orI_loop (l : List Int) (l_t : Bool) (h0 : l.length ≤ 1000) (b0 : Base) (hb : b0.n = 1) (R : SV) : ∀ (m j : Nat), j + m = l.length → R = .c (.int .i64 (F.orF (l.drop j))) →
    Sym.Runs Try.prog b0 (cutAt Try.f46 3) (st_orI_3 l l_t (j : Int)) (Sym.Ends Try.prog Try.f46 1 R []) := by
  intro m
  induction m with
  | zero =>
    intro j hm hR
    refine Runs.go (cfg := C_scmp) L_scmp_ok mixed cuts_orI 400 hb (orI_t3 l l_t (j : Int)) ?_
    have k1 : ¬ (j : Int) < (l.length : Int) := by omega
    rw [List.drop_of_length_le (by omega)] at hR
    simp only [T.wp, T.wp_cond, Aft, Int.ofNat_eq_natCast, decide_eq_true_eq, and_true, true_and, Nat.zero_add, Bool.not_eq_true', decide_eq_false_iff_not, k1, if_false, hR]
    rfl
  | succ m ih =>
    intro j hm hR
    have k1 : (j : Int) < (l.length : Int) := by omega
    have k2 : j < l.length := by omega
    have k3 : i64ok ((j : Int) + 1) := by unfold i64ok; omega
    have k0 : (0 : Int) ≤ (j : Int) := by omega
    have hd : (cod 0).d = (0 : Int) := rfl
    have nx := ih (j + 1) (by omega)
    have e1 : l.drop j = l.getD j 0 :: l.drop (j + 1) := by rw [List.drop_eq_getElem_cons k2]; simp [List.getD, k2]
    rw [e1, F.orF] at hR
    refine Runs.go (cfg := C_scmp) L_scmp_ok mixed cuts_orI 400 hb (orI_t3 l l_t (j : Int)) ?_
    simp only [T.wp, T.wp_cond, Aft, Int.ofNat_eq_natCast, decide_eq_true_eq, and_true, true_and, Nat.zero_add, Bool.not_eq_true', decide_eq_false_iff_not, Int.toNat_natCast, k0, k1, k2, k3, hd, if_true]
    by_cases hz : l.getD j 0 = 0
    · rw [if_pos hz] at hR
      rw [if_neg (fun h => h hz)]
      exact nx hR
    · rw [if_neg hz] at hR
      rw [if_pos hz, hR]
theorem orI_run (l : List Int) (l_t : Bool) (b0 : Base) (hb : b0.n = 1) (h0 : List.length l ≤ 1000) : Sym.Runs Try.prog b0 [.code (codeOf Try.f46)] ⟨argsS Try.f46 [.c (.slc 0 0 (List.length l) l_t)], ([.inp 0 l] : Heap cod)⟩ (Sym.Ends Try.prog Try.f46 1 (.c (.int .i64 (F.orF l))) []) := by
  refine Runs.go (cfg := C_scmp) L_scmp_ok mixed cuts_orI 400 hb (orI_t0 l l_t) ?_
  simp only [T.wp, T.wp_cond, Aft, Int.ofNat_eq_natCast, decide_eq_true_eq, and_true, true_and, Nat.zero_add, Bool.not_eq_true', decide_eq_false_iff_not]
  exact orI_loop l l_t h0 b0 hb _ l.length 0 (by omega) rfl



noncomputable def s_orI : Summ cod := fun args H => match args, H with
  | [.c (.slc 0 l_i l_n l_t)], [o0] => (match o0.asInp 0 with | some l => .need ((l_i = 0 ∧ l_n = List.length l) ∧ (List.length l ≤ 1000)) (.ret (.c (.int .i64 (F.orF l)), [])) | none => .fail)
  | _, _ => .fail


theorem orI_sound : Sound Try.prog cod 46 s_orI := sound_runs (cfg := C_scmp) L_scmp_ok mixed Try.func46 rfl rfl _ fun args H r news hg b0 hb => by
  unfold s_orI at hg
  split at hg
  · skip
    split at hg
    · rename_i l hx0
      cases asInp_spec hx0
      simp only [T.gives, T.wp, Prod.mk.injEq] at hg
      obtain ⟨⟨⟨rfl, rfl⟩, q1⟩, rfl, rfl⟩ := hg
      exact orI_run _ _ b0 hb (by assumption)
    · exact hg.elim
  · exact hg.elim

noncomputable def L_orI : Sums cod := (46, .p s_orI) :: L_scmp
noncomputable def C_orI : Cfg cod := mkC L_orI

theorem L_orI_ok : Snd Try.prog cod L_orI := .cons orI_sound L_scmp_ok



def cuts_cmpB : Cuts := []

theorem cmpB_t0 (a1 : List UInt8) (a2 : List UInt8) (a3 a4 a5 : Int) (b1 : List UInt8) (b2 : List UInt8) (b3 b4 b5 : Int) : symF C_orI cuts_cmpB Try.f45.results.toList 0 400 [.code (codeOf Try.f45)] ⟨argsS Try.f45 [.agg [.str a1, .str a2, .int .i64 a3, .int .i64 a4, .int .i64 a5], .agg [.str b1, .str b2, .int .i64 b3, .int .i64 b4, .int .i64 b5]], ([] : Heap cod)⟩ =
.need (i64ok (a3 - b3)) (
.need (((0 = 0 ∧ 2 = 2) ∧ (2 : Nat) ≤ 1000)) (
.ret (.fin (.c (.int .i64 (F.orF [a3 - b3, F.scmp a1 b1]))) []))) := by kernel_rfl



theorem cmpB_run (a1 : List UInt8) (a2 : List UInt8) (a3 a4 a5 : Int) (b1 : List UInt8) (b2 : List UInt8) (b3 b4 b5 : Int) (b0 : Base) (hb : b0.n = 0) (h0 : 0 ≤ a3 ∧ a3 ≤ 200000) (h1 : 0 ≤ b3 ∧ b3 ≤ 200000) : Sym.Runs Try.prog b0 [.code (codeOf Try.f45)] ⟨argsS Try.f45 [.agg [.str a1, .str a2, .int .i64 a3, .int .i64 a4, .int .i64 a5], .agg [.str b1, .str b2, .int .i64 b3, .int .i64 b4, .int .i64 b5]], ([] : Heap cod)⟩ (Sym.Ends Try.prog Try.f45 0 (.c (.int .i64 (F.cmpB (a1, a2, a3, a4, a5) (b1, b2, b3, b4, b5)))) []) := by
  refine Runs.go (cfg := C_orI) L_orI_ok mixed cuts_cmpB 400 hb (cmpB_t0 a1 a2 a3 a4 a5 b1 b2 b3 b4 b5) ?_
  simp only [T.wp, T.wp_cond, Aft, Int.ofNat_eq_natCast, decide_eq_true_eq, and_true, true_and, Nat.zero_add, Bool.not_eq_true', decide_eq_false_iff_not]
  exact ⟨by unfold i64ok; omega, by decide, rfl⟩



noncomputable def s_cmpB : Summ cod := fun args H => match args, H with
  | [.agg [.str a1, .str a2, .int .i64 a3, .int .i64 a4, .int .i64 a5], .agg [.str b1, .str b2, .int .i64 b3, .int .i64 b4, .int .i64 b5]], [] => .need ((0 ≤ a3 ∧ a3 ≤ 200000) ∧ (0 ≤ b3 ∧ b3 ≤ 200000)) (.ret (.c (.int .i64 (F.cmpB (a1, a2, a3, a4, a5) (b1, b2, b3, b4, b5))), []))
  | _, _ => .fail


theorem cmpB_sound : Sound Try.prog cod 45 s_cmpB := sound_runs (cfg := C_orI) L_orI_ok mixed Try.func45 rfl rfl _ fun args H r news hg b0 hb => by
  unfold s_cmpB at hg
  split at hg
  · skip
    simp only [T.gives, T.wp, Prod.mk.injEq] at hg
    obtain ⟨⟨q0, q1⟩, rfl, rfl⟩ := hg
    exact cmpB_run _ _ _ _ _ _ _ _ _ _ b0 hb (by assumption) (by assumption)
  · exact hg.elim

noncomputable def L_cmpB : Sums cod := (45, .p s_cmpB) :: L_orI
noncomputable def C_cmpB : Cfg cod := mkC L_cmpB

theorem L_cmpB_ok : Snd Try.prog cod L_cmpB := .cons cmpB_sound L_orI_ok


end
end Go.Proofs.Ytkfkfihjdohjfaa
end
section
/- Contacts in the order of their flights: where a flight is, whether it is there. -/
namespace Go.Proofs.Ytkfkfihjdohjfaa
namespace F
abbrev Co := List UInt8 × Int × Int
def co0 : Co := ([], 0, 0)
/-- Flights in strictly ascending order. -/
def asc : List Co → Bool
  | [] => true
  | a :: l => l.all (fun b => lt a.1 b.1) && asc l
def hasC (l : List Co) (k : List UInt8) : Bool := l.any fun r => decide (r.1 = k)
/-- How many contacts are ahead of a flight. -/
def posC (l : List Co) (k : List UInt8) : Nat := (l.takeWhile fun r => lt r.1 k).length
end F
theorem asc_cons {a : F.Co} {l : List F.Co} : F.asc (a :: l) = true ↔ (∀ b ∈ l, F.lt a.1 b.1 = true) ∧ F.asc l = true := by
  simp [F.asc]
theorem hasC_cons {a : F.Co} {l : List F.Co} {k : List UInt8} : F.hasC (a :: l) k = (decide (a.1 = k) || F.hasC l k) := rfl
theorem hasC_not {l : List F.Co} {k : List UInt8} (h : ∀ b ∈ l, F.lt k b.1 = true) : F.hasC l k = false := by
  unfold F.hasC
  rw [List.any_eq_false]
  intro b hb e
  have e' : b.1 = k := of_decide_eq_true e
  have := h b hb
  rw [e', lt_irr] at this
  cases this
theorem posC_zero {l : List F.Co} {k : List UInt8} (h : ∀ b ∈ l, F.lt b.1 k = false) : F.posC l k = 0 := by
  unfold F.posC
  cases l with
  | nil => rfl
  | cons a l => rw [List.takeWhile_cons_of_neg (by rw [h a (List.mem_cons_self ..)]; decide)]; rfl
theorem posC_succ {a : F.Co} {l : List F.Co} {k : List UInt8} (h : F.lt a.1 k = true) : F.posC (a :: l) k = F.posC l k + 1 := by
  unfold F.posC
  have e : List.takeWhile (fun r : F.Co => F.lt r.1 k) (a :: l) = a :: List.takeWhile (fun r : F.Co => F.lt r.1 k) l := List.takeWhile_cons_of_pos h
  rw [e]; rfl
theorem posC_le (l : List F.Co) (k : List UInt8) : F.posC l k ≤ l.length := by
  unfold F.posC
  exact (List.takeWhile_sublist _).length_le
/-- The place where the search ends. -/
theorem posC_eq {l : List F.Co} {k : List UInt8} {i : Nat} (hi : i ≤ l.length) (h1 : ∀ m, m < i → F.lt (l.getD m F.co0).1 k = true) (h2 : ∀ m, i ≤ m → m < l.length → F.lt (l.getD m F.co0).1 k = false) : F.posC l k = i := by
  induction l generalizing i with
  | nil => simp at hi; subst hi; rfl
  | cons a l ih =>
    cases i with
    | zero =>
      have := h2 0 (Nat.le_refl _) (by simp)
      unfold F.posC
      rw [List.takeWhile_cons_of_neg (by simp only [List.getD_cons_zero] at this; rw [this]; decide)]; rfl
    | succ i =>
      have := h1 0 (by omega)
      simp only [List.getD_cons_zero] at this
      rw [posC_succ this, ih (i := i) (by simpa using hi) (fun m hm => by simpa using h1 (m + 1) (by omega)) (fun m hm hl => by simpa using h2 (m + 1) (by omega) (by simpa using hl))]
theorem asc_lt {l : List F.Co} (h : F.asc l = true) {m n : Nat} (hm : m < n) (hn : n < l.length) : F.lt (l.getD m F.co0).1 (l.getD n F.co0).1 = true := by
  induction l generalizing m n with
  | nil => simp at hn
  | cons a l ih =>
    obtain ⟨h1, h2⟩ := asc_cons.1 h
    cases n with
    | zero => omega
    | succ n =>
      have hn' : n < l.length := by simpa using hn
      cases m with
      | zero =>
        simp only [List.getD_cons_zero, List.getD_cons_succ]
        refine h1 _ ?_
        rw [List.getD, List.getElem?_eq_getElem hn']
        exact List.getElem_mem _
      | succ m =>
        simp only [List.getD_cons_succ]
        exact ih h2 (by omega) hn'
/-- The key is there exactly if it stands at its place. -/
theorem hasC_pos {l : List F.Co} {k : List UInt8} (h : F.asc l = true) : F.hasC l k = (decide (F.posC l k < l.length) && decide ((l.getD (F.posC l k) F.co0).1 = k)) := by
  induction l with
  | nil => rfl
  | cons a l ih =>
    obtain ⟨h1, h2⟩ := asc_cons.1 h
    rw [hasC_cons]
    rcases lt_tri a.1 k with c | c | c
    · have hne : ¬ a.1 = k := fun e => by rw [e, lt_irr] at c; cases c
      rw [posC_succ c, decide_eq_false hne, Bool.false_or, ih h2]
      simp
    · have hp : F.posC (a :: l) k = 0 := by
        unfold F.posC
        rw [List.takeWhile_cons_of_neg (by rw [c, lt_irr]; decide)]; rfl
      rw [hp]
      simp [c]
    · have hp : F.posC (a :: l) k = 0 := by
        unfold F.posC
        rw [List.takeWhile_cons_of_neg (by rw [lt_asymm' c]; decide)]; rfl
      have hne : ¬ a.1 = k := fun e => by rw [e, lt_irr] at c; cases c
      rw [hp, decide_eq_false hne, hasC_not (fun b hb => lt_trans' c (h1 b hb))]
      simp [hne]
end Go.Proofs.Ytkfkfihjdohjfaa
end
