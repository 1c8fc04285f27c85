/- Parts of the proof, one behind the other: Xc, SnP. -/
import Derived.Test.YtiolfkmkbccndaaGreatDoorXb
import Derived.Sort.Walk0
section
namespace Go.Proofs.YtiolfkmkbccndaaGreatDoor
open Sym Go.RowKit
noncomputable section
set_option maxRecDepth 100000
set_option maxHeartbeats 4000000

namespace F
def enE (n t : Int) (kind text : List UInt8) : Int :=
  if (inb n 1 500 && inb t 0 200000) = false then 4 else if 120 < text.length ∨ 8 < kind.length then 2 else if kind = [] ∨ low kind = false then 6 else 0
def enS (n t : Int) (kind text : List UInt8) : List UInt8 := itoa n ++ [32] ++ itoa t ++ [32] ++ kind ++ [32] ++ itoa (text.length : Int) ++ [58] ++ text
def enB (n t : Int) (kind text : List UInt8) : List UInt8 := enS n t kind text ++ [59] ++ itoa (sum (enS n t kind text)) ++ [10]
def encR (n t : Int) (kind text : List UInt8) : List UInt8 := if enE n t kind text = 0 then enB n t kind text else []
end F


theorem itl_len : ∀ (f : Nat) (n : Int) (acc : List UInt8), (F.itl f n acc).length ≤ f + acc.length
  | 0, n, acc => by simp [F.itl]
  | f + 1, n, acc => by
    rw [F.itl]
    split
    · have := itl_len f (n / 10) (F.dig (n % 10) ++ acc)
      simp only [F.dig, List.length_append, List.length_cons, List.length_nil] at this ⊢
      omega
    · omega
theorem itoa_len (n : Int) : (F.itoa n).length ≤ 30 := by
  have := itl_len 30 n []
  simpa [F.itoa] using this
theorem itoaZ_pos {n : Int} (h : 0 ≤ n) : F.itoaZ n = F.itoa n := by unfold F.itoaZ; rw [if_neg (by omega)]
theorem sum_bd (s : List UInt8) : 0 ≤ F.sum s ∧ F.sum s ≤ 62000 := by
  unfold F.sum
  omega
theorem low_alph (c : UInt8) (h : F.lowB c = true) : F.alph.contains c = true := by
  simp only [F.lowB, Bool.and_eq_true, decide_eq_true_eq] at h
  have k : ∀ k : Nat, k < 26 → F.alph.contains (UInt8.ofNat (97 + k)) = true := by decide
  have e : c = UInt8.ofNat (97 + (c.toNat - 97)) := by
    rw [show 97 + (c.toNat - 97) = c.toNat by omega, UInt8.ofNat_toNat]
  rw [e]
  exact k _ (by omega)
theorem drop_all {p : UInt8 → Bool} : ∀ {l : List UInt8}, (∀ x ∈ l, p x = true) → l.dropWhile p = []
  | [], _ => rfl
  | a :: l, h => by
    rw [List.dropWhile_cons, if_pos (h a (List.mem_cons_self ..))]
    exact drop_all fun x hx => h x (List.mem_cons_of_mem _ hx)
theorem trm_low {s : List UInt8} (h : F.low s = true) : F.trm s = [] := by
  have ha : ∀ x ∈ s, F.alph.contains x = true := fun x hx => low_alph x (List.all_eq_true.1 h x hx)
  unfold F.trm Lib.trimS Lib.trimRightS
  rw [drop_all (l := s.reverse) (fun x hx => ha x (List.mem_reverse.1 hx))]
  rfl
theorem enE_ok {n t : Int} {kind text : List UInt8} (h : F.enE n t kind text = 0) : (1 ≤ n ∧ n ≤ 500 ∧ 0 ≤ t ∧ t ≤ 200000) ∧ text.length ≤ 120 ∧ kind.length ≤ 8 ∧ kind ≠ [] ∧ F.low kind = true := by
  unfold F.enE at h
  split at h
  · omega
  · rename_i h1
    split at h
    · omega
    · rename_i h2
      split at h
      · omega
      · rename_i h3
        simp only [F.inb, Bool.not_eq_false, Bool.and_eq_true, decide_eq_true_eq] at h1
        simp only [not_or, Bool.not_eq_false] at h2 h3
        exact ⟨⟨h1.1.1, h1.1.2, h1.2.1, h1.2.2⟩, by omega, by omega, h3.1, h3.2⟩


def cuts_rcheck : Cuts := []

theorem rcheck_t0 (n t : Int) (kind text : List UInt8) : symF C_itoaR cuts_rcheck Tryz.f27.results.toList 0 400 [.code (codeOf Tryz.f27)] ⟨argsS Tryz.f27 [.agg [.int .i64 n, .int .i64 t, .str kind, .str text]], ([] : Heap cod)⟩ =
 cond (decide (n < 1)) (
 .ret (.fin (.c (.int .i64 4)) [])) (
 cond (decide (500 < n)) (
  .ret (.fin (.c (.int .i64 4)) [])) (
  cond (decide (t < 0)) (
   .ret (.fin (.c (.int .i64 4)) [])) (
   cond (decide (200000 < t)) (
    .ret (.fin (.c (.int .i64 4)) [])) (
    cond (decide (120 < Int.ofNat (List.length text))) (
     .ret (.fin (.c (.int .i64 2)) [])) (
     cond (decide (8 < Int.ofNat (List.length kind))) (
      .ret (.fin (.c (.int .i64 2)) [])) (
      cond (decide (kind = [])) (
       .ret (.fin (.c (.int .i64 6)) [])) (
       .need ((([97, 98, 99, 100, 101, 102, 103, 104, 105, 106, 107, 108, 109, 110, 111, 112, 113, 114, 115, 116, 117, 118, 119, 120,   121, 122] : List UInt8) = F.alph ∧ List.length kind ≤ 9223372036854775807)) (
       cond (!decide (F.trm kind = [])) (
        .ret (.fin (.c (.int .i64 6)) [])) (
        .need (List.length kind ≤ 1000000000000000) (
        cond (!F.low kind) (
         .ret (.fin (.c (.int .i64 6)) [])) (
         .ret (.fin (.c (.int .i64 0)) [])))))))))))) := by kernel_rfl



theorem rcheck_run (n t : Int) (kind text : List UInt8) (b0 : Base) (hb : b0.n = 0) (h0 : kind.length ≤ 1000000000000000 ∧ text.length ≤ 1000000000000000) : Sym.Runs Tryz.prog b0 [.code (codeOf Tryz.f27)] ⟨argsS Tryz.f27 [.agg [.int .i64 n, .int .i64 t, .str kind, .str text]], ([] : Heap cod)⟩ (Sym.Ends Tryz.prog Tryz.f27 0 (.c (.int .i64 (F.enE n t kind text))) []) := by
  refine Runs.go (cfg := C_itoaR) L_itoaR_ok mixed cuts_rcheck 400 hb (rcheck_t0 n t kind text) ?_
  simp only [T.wp, T.wp_cond, Aft, Int.ofNat_eq_natCast, decide_eq_true_eq, and_true, Bool.not_eq_true', decide_eq_false_iff_not, Bool.not_eq_true', decide_eq_false_iff_not]
  by_cases c1 : n < 1
  · exact ite_yes c1 (by unfold F.enE; rw [if_pos (by simp [F.inb, show ¬ 1 ≤ n by omega])])
  refine ite_no c1 ?_
  by_cases c2 : 500 < n
  · exact ite_yes c2 (by unfold F.enE; rw [if_pos (by simp [F.inb, show ¬ n ≤ 500 by omega])])
  refine ite_no c2 ?_
  by_cases c3 : t < 0
  · exact ite_yes c3 (by unfold F.enE; rw [if_pos (by simp [F.inb, show ¬ 0 ≤ t by omega])])
  refine ite_no c3 ?_
  by_cases c4 : 200000 < t
  · exact ite_yes c4 (by unfold F.enE; rw [if_pos (by simp [F.inb, show ¬ t ≤ 200000 by omega])])
  refine ite_no c4 ?_
  have hin : ¬ (F.inb n 1 500 && F.inb t 0 200000) = false := by simp [F.inb]; omega
  by_cases c5 : (120 : Int) < (text.length : Int)
  · exact ite_yes c5 (by unfold F.enE; rw [if_neg hin, if_pos (.inl (by omega))])
  refine ite_no c5 ?_
  by_cases c6 : (8 : Int) < (kind.length : Int)
  · exact ite_yes c6 (by unfold F.enE; rw [if_neg hin, if_pos (.inr (by omega))])
  refine ite_no c6 ?_
  have h2 : ¬ (120 < text.length ∨ 8 < kind.length) := by omega
  by_cases c7 : kind = []
  · exact ite_yes c7 (by unfold F.enE; rw [if_neg hin, if_neg h2, if_pos (.inl c7)])
  refine ite_no c7 ⟨⟨rfl, by omega⟩, ?_⟩
  by_cases c8 : F.low kind = true
  · refine ite_no (by rw [trm_low c8]; simp) ⟨h0.1, ite_no (by simp [c8]) ?_⟩
    unfold F.enE
    rw [if_neg hin, if_neg h2, if_neg (by simp [c7, c8])]
  · have e6 : F.enE n t kind text = 6 := by
      unfold F.enE
      rw [if_neg hin, if_neg h2, if_pos (.inr (by simpa using c8))]
    by_cases c9 : F.trm kind = []
    · exact ite_no (by simp [c9]) ⟨h0.1, ite_yes (by simpa using c8) (by rw [e6])⟩
    · exact ite_yes c9 (by rw [e6])



noncomputable def s_rcheck : Summ cod := fun args H => match args, H with
  | [.agg [.int .i64 n, .int .i64 t, .str kind, .str text]], [] => .need ((kind.length ≤ 1000000000000000 ∧ text.length ≤ 1000000000000000)) (.ret (.c (.int .i64 (F.enE n t kind text)), []))
  | _, _ => .fail


theorem rcheck_sound : Sound Tryz.prog cod 27 s_rcheck := sound_runs (cfg := C_itoaR) L_itoaR_ok mixed Tryz.func27 rfl rfl _ fun args H r news hg b0 hb => by
  unfold s_rcheck at hg
  split at hg
  · skip
    simp only [T.gives, T.wp, Prod.mk.injEq] at hg
    obtain ⟨q0, rfl, rfl⟩ := hg
    exact rcheck_run _ _ _ _ b0 hb (by assumption)
  · exact hg.elim

noncomputable def L_rcheck : Sums cod := (27, .p s_rcheck) :: L_itoaR
noncomputable def C_rcheck : Cfg cod := mkC L_rcheck

theorem L_rcheck_ok : Snd Tryz.prog cod L_rcheck := .cons rcheck_sound L_itoaR_ok



def cuts_encode : Cuts := []

theorem encode_t0 (n t : Int) (kind text : List UInt8) : symF C_rcheck cuts_encode Tryz.f19.results.toList 0 400 [.code (codeOf Tryz.f19)] ⟨argsS Tryz.f19 [.agg [.int .i64 n, .int .i64 t, .str kind, .str text]], ([] : Heap cod)⟩ =
.need ((List.length kind ≤ 1000000000000000 ∧ List.length text ≤ 1000000000000000)) (
 cond (!decide (F.enE n t kind text = 0)) (
 .ret (.fin (.tup [.c (.str []), .c (.int .i64 (F.enE n t kind text))]) [])) (
 .need (i64ok n) (
 .need (List.length (F.itoaZ n) + 1 ≤ 9223372036854775807) (
 .need (i64ok t) (
 .need (List.length (F.itoaZ n ++ [32]) + List.length (F.itoaZ t) ≤ 9223372036854775807) (
 .need (List.length (F.itoaZ n ++ [32] ++ F.itoaZ t) + 1 ≤ 9223372036854775807) (
 .need (List.length (F.itoaZ n ++ [32] ++ F.itoaZ t ++ [32]) + List.length kind ≤ 9223372036854775807) (
 .need (List.length (F.itoaZ n ++ [32] ++ F.itoaZ t ++ [32] ++ kind) + 1 ≤ 9223372036854775807) (
 .need (i64ok (Int.ofNat (List.length text))) (
 .need (List.length (F.itoaZ n ++ [32] ++ F.itoaZ t ++ [32] ++ kind ++ [32]) +     List.length (F.itoaZ (Int.ofNat (List.length text))) ≤   9223372036854775807) (
 .need (List.length (F.itoaZ n ++ [32] ++ F.itoaZ t ++ [32] ++ kind ++ [32] ++ F.itoaZ (Int.ofNat (List.length text))) + 1 ≤   9223372036854775807) (
 .need (List.length (F.itoaZ n ++ [32] ++ F.itoaZ t ++ [32] ++ kind ++ [32] ++ F.itoaZ (Int.ofNat (List.length text)) ++ [58]) +     List.length text ≤   9223372036854775807) (
 .need (List.length       (F.itoaZ n ++ [32] ++ F.itoaZ t ++ [32] ++ kind ++ [32] ++ F.itoaZ (Int.ofNat (List.length text)) ++ [58] ++         text) +     1 ≤   9223372036854775807) (
 .need (List.length     (F.itoaZ n ++ [32] ++ F.itoaZ t ++ [32] ++ kind ++ [32] ++ F.itoaZ (Int.ofNat (List.length text)) ++ [58] ++ text) ≤   1000000000000000) (
 .need (i64ok   (F.sum     (F.itoaZ n ++ [32] ++ F.itoaZ t ++ [32] ++ kind ++ [32] ++ F.itoaZ (Int.ofNat (List.length text)) ++ [58] ++ text))) (
 .need (List.length       (F.itoaZ n ++ [32] ++ F.itoaZ t ++ [32] ++ kind ++ [32] ++ F.itoaZ (Int.ofNat (List.length text)) ++ [58] ++           text ++         [59]) +     List.length       (F.itoaZ         (F.sum           (F.itoaZ n ++ [32] ++ F.itoaZ t ++ [32] ++ kind ++ [32] ++ F.itoaZ (Int.ofNat (List.length text)) ++ [58] ++             text))) ≤   9223372036854775807) (
 .need (List.length       (F.itoaZ n ++ [32] ++ F.itoaZ t ++ [32] ++ kind ++ [32] ++ F.itoaZ (Int.ofNat (List.length text)) ++ [58] ++             text ++           [59] ++         F.itoaZ           (F.sum             (F.itoaZ n ++ [32] ++ F.itoaZ t ++ [32] ++ kind ++ [32] ++ F.itoaZ (Int.ofNat (List.length text)) ++ [58] ++               text))) +     1 ≤   9223372036854775807) (
 .ret (.fin (.tup [.c (.str (F.itoaZ n ++ [32] ++ F.itoaZ t ++ [32] ++ kind ++ [32] ++ F.itoaZ (Int.ofNat (List.length text)) ++ [58] ++ text ++       [59] ++     F.itoaZ       (F.sum         (F.itoaZ n ++ [32] ++ F.itoaZ t ++ [32] ++ kind ++ [32] ++ F.itoaZ (Int.ofNat (List.length text)) ++ [58] ++           text)) ++   [10])), .c (.int .i64 0)]) []))))))))))))))))))) := by kernel_rfl



theorem encode_run (n t : Int) (kind text : List UInt8) (b0 : Base) (hb : b0.n = 0) (h0 : kind.length ≤ 1000000000000000 ∧ text.length ≤ 1000000000000000) : Sym.Runs Tryz.prog b0 [.code (codeOf Tryz.f19)] ⟨argsS Tryz.f19 [.agg [.int .i64 n, .int .i64 t, .str kind, .str text]], ([] : Heap cod)⟩ (Sym.Ends Tryz.prog Tryz.f19 0 (.tup [.c (.str (F.encR n t kind text)), .c (.int .i64 (F.enE n t kind text))]) []) := by
  refine Runs.go (cfg := C_rcheck) L_rcheck_ok mixed cuts_encode 400 hb (encode_t0 n t kind text) ?_
  simp only [T.wp, T.wp_cond, Aft, Int.ofNat_eq_natCast, and_true, Bool.not_eq_true', decide_eq_false_iff_not, Bool.not_eq_true', decide_eq_false_iff_not]
  refine ⟨h0, ?_⟩
  by_cases c : F.enE n t kind text = 0
  rotate_left
  · have e : F.encR n t kind text = [] := if_neg c
    rw [e]
    exact ite_yes c rfl
  have e : F.encR n t kind text = F.enB n t kind text := if_pos c
  rw [e]
  refine ite_no (by simp [c]) ?_
  obtain ⟨⟨k1, k2, k3, k4⟩, k5, k6, k7, k8⟩ := enE_ok c
  rw [itoaZ_pos (show 0 ≤ n by omega), itoaZ_pos k3, itoaZ_pos (show 0 ≤ (text.length : Int) by omega)]
  have es : F.itoa n ++ [32] ++ F.itoa t ++ [32] ++ kind ++ [32] ++ F.itoa (text.length : Int) ++ [58] ++ text = F.enS n t kind text := rfl
  rw [es]
  have l1 := itoa_len n
  have l2 := itoa_len t
  have l3 := itoa_len (text.length : Int)
  have l4 := itoa_len (F.sum (F.enS n t kind text))
  have ls : (F.enS n t kind text).length ≤ 300 := by
    simp only [F.enS, List.length_append, List.length_cons, List.length_nil]
    omega
  have sb := sum_bd (F.enS n t kind text)
  rw [itoaZ_pos sb.1]
  simp only [List.length_append, List.length_cons, List.length_nil, i64ok]
  refine ⟨by omega, by omega, by omega, by omega, by omega, by omega, by omega, by omega, by omega, by omega, by omega, by omega, by omega, by omega, by omega, by omega, ?_⟩
  rw [c]
  rfl



noncomputable def s_encode : Summ cod := fun args H => match args, H with
  | [.agg [.int .i64 n, .int .i64 t, .str kind, .str text]], [] => .need ((kind.length ≤ 1000000000000000 ∧ text.length ≤ 1000000000000000)) (.ret (.tup [.c (.str (F.encR n t kind text)), .c (.int .i64 (F.enE n t kind text))], []))
  | _, _ => .fail


theorem encode_sound : Sound Tryz.prog cod 19 s_encode := sound_runs (cfg := C_rcheck) L_rcheck_ok mixed Tryz.func19 rfl rfl _ fun args H r news hg b0 hb => by
  unfold s_encode at hg
  split at hg
  · skip
    simp only [T.gives, T.wp, Prod.mk.injEq] at hg
    obtain ⟨q0, rfl, rfl⟩ := hg
    exact encode_run _ _ _ _ b0 hb (by assumption)
  · exact hg.elim

noncomputable def L_encode : Sums cod := (19, .p s_encode) :: L_rcheck
noncomputable def C_encode : Cfg cod := mkC L_encode

theorem L_encode_ok : Snd Tryz.prog cod L_encode := .cons encode_sound L_rcheck_ok


end
end Go.Proofs.YtiolfkmkbccndaaGreatDoor
end
section
/- Rows of a state in the order of their keys: where a key is, what is there, a row put in, a row taken out. -/
namespace Go.Proofs.YtiolfkmkbccndaaGreatDoor
namespace F
abbrev Str := List UInt8
abbrev Row := List UInt8 × List UInt8
def lt (a b : List UInt8) : Bool := Op.bytesLess a b
def r0 : Row := ([], [])
/-- Keys in strictly ascending order. -/
def srt : List Row → Bool
  | [] => true
  | a :: l => l.all (fun b => lt a.1 b.1) && srt l
def has (l : List Row) (k : List UInt8) : Bool := l.any fun r => decide (r.1 = k)
/-- How many rows are ahead of a key. -/
def pos (l : List Row) (k : List UInt8) : Nat := (l.takeWhile fun r => lt r.1 k).length
/-- What is there for a key: the first one. -/
def val : List Row → List UInt8 → List UInt8
  | [], _ => []
  | r :: l, k => if r.1 = k then r.2 else val l k
/-- The state in which a key has a value (not done yet), or none (done). -/
def wth (k v : List UInt8) : Bool → List Row → List Row
  | d, [] => if d then [] else [(k, v)]
  | d, r :: l => if r.1 = k then wth k v d l else if d = false ∧ lt k r.1 = true then (k, v) :: r :: wth k v true l else r :: wth k v d l
end F
theorem lt_iff {a b : List UInt8} : F.lt a b = true ↔ a < b := by
  unfold F.lt
  rw [Go.Proofs.bytesLess_eq, decide_eq_true_eq]
theorem lt_irr (a : List UInt8) : F.lt a a = false := by
  rw [Bool.eq_false_iff]
  intro h
  exact List.lt_irrefl a (lt_iff.1 h)
theorem lt_trans' {a b c : List UInt8} (h : F.lt a b = true) (k : F.lt b c = true) : F.lt a c = true := lt_iff.2 (List.lt_trans (lt_iff.1 h) (lt_iff.1 k))
theorem lt_asymm' {a b : List UInt8} (h : F.lt a b = true) : F.lt b a = false := by
  rw [Bool.eq_false_iff]
  intro k
  have := lt_trans' h k
  rw [lt_irr] at this
  cases this
theorem lt_tri (a b : List UInt8) : F.lt a b = true ∨ a = b ∨ F.lt b a = true := by
  by_cases h : a < b
  · exact .inl (lt_iff.2 h)
  · by_cases k : b < a
    · exact .inr (.inr (lt_iff.2 k))
    · exact .inr (.inl (List.le_antisymm (List.not_lt.1 k) (List.not_lt.1 h)))
theorem lt_not {a b : List UInt8} : (F.lt a b || decide (a = b)) = !F.lt b a := by
  rcases lt_tri a b with h | h | h
  · rw [h, lt_asymm' h]; rfl
  · subst h; rw [lt_irr]; simp
  · have hne : ¬ a = b := fun e => by subst e; rw [lt_irr] at h; cases h
    rw [lt_asymm' h, h, decide_eq_false hne]; rfl
theorem srt_cons {a : F.Row} {l : List F.Row} : F.srt (a :: l) = true ↔ (∀ b ∈ l, F.lt a.1 b.1 = true) ∧ F.srt l = true := by
  simp [F.srt]
theorem has_cons {a : F.Row} {l : List F.Row} {k : List UInt8} : F.has (a :: l) k = (decide (a.1 = k) || F.has l k) := rfl
theorem has_not {l : List F.Row} {k : List UInt8} (h : ∀ b ∈ l, F.lt k b.1 = true) : F.has l k = false := by
  unfold F.has
  rw [List.any_eq_false]
  intro b hb e
  have e' : b.1 = k := of_decide_eq_true e
  have := h b hb
  rw [e', lt_irr] at this
  cases this
theorem pos_zero {l : List F.Row} {k : List UInt8} (h : ∀ b ∈ l, F.lt b.1 k = false) : F.pos l k = 0 := by
  unfold F.pos
  cases l with
  | nil => rfl
  | cons a l => rw [List.takeWhile_cons_of_neg (by rw [h a (List.mem_cons_self ..)]; decide)]; rfl
theorem pos_succ {a : F.Row} {l : List F.Row} {k : List UInt8} (h : F.lt a.1 k = true) : F.pos (a :: l) k = F.pos l k + 1 := by
  unfold F.pos
  have e : List.takeWhile (fun r : F.Row => F.lt r.1 k) (a :: l) = a :: List.takeWhile (fun r : F.Row => F.lt r.1 k) l := List.takeWhile_cons_of_pos h
  rw [e]; rfl
theorem pos_le (l : List F.Row) (k : List UInt8) : F.pos l k ≤ l.length := by
  unfold F.pos
  exact (List.takeWhile_sublist _).length_le
/-- The place where the search ends. -/
theorem pos_eq {l : List F.Row} {k : List UInt8} {i : Nat} (hi : i ≤ l.length) (h1 : ∀ m, m < i → F.lt (l.getD m F.r0).1 k = true) (h2 : ∀ m, i ≤ m → m < l.length → F.lt (l.getD m F.r0).1 k = false) : F.pos l k = i := by
  induction l generalizing i with
  | nil => simp at hi; subst hi; rfl
  | cons a l ih =>
    cases i with
    | zero =>
      have := h2 0 (Nat.le_refl _) (by simp)
      unfold F.pos
      rw [List.takeWhile_cons_of_neg (by simp only [List.getD_cons_zero] at this; rw [this]; decide)]; rfl
    | succ i =>
      have := h1 0 (by omega)
      simp only [List.getD_cons_zero] at this
      rw [pos_succ this, ih (i := i) (by simpa using hi) (fun m hm => by simpa using h1 (m + 1) (by omega)) (fun m hm hl => by simpa using h2 (m + 1) (by omega) (by simpa using hl))]
theorem srt_lt {l : List F.Row} (h : F.srt l = true) {m n : Nat} (hm : m < n) (hn : n < l.length) : F.lt (l.getD m F.r0).1 (l.getD n F.r0).1 = true := by
  induction l generalizing m n with
  | nil => simp at hn
  | cons a l ih =>
    obtain ⟨h1, h2⟩ := srt_cons.1 h
    cases n with
    | zero => omega
    | succ n =>
      have hn' : n < l.length := by simpa using hn
      cases m with
      | zero =>
        simp only [List.getD_cons_zero, List.getD_cons_succ]
        refine h1 _ ?_
        rw [List.getD, List.getElem?_eq_getElem hn']
        exact List.getElem_mem _
      | succ m =>
        simp only [List.getD_cons_succ]
        exact ih h2 (by omega) hn'
/-- The key is there exactly if it stands at its place. -/
theorem has_pos {l : List F.Row} {k : List UInt8} (h : F.srt l = true) : F.has l k = (decide (F.pos l k < l.length) && decide ((l.getD (F.pos l k) F.r0).1 = k)) := by
  induction l with
  | nil => rfl
  | cons a l ih =>
    obtain ⟨h1, h2⟩ := srt_cons.1 h
    rw [has_cons]
    rcases lt_tri a.1 k with c | c | c
    · have hne : ¬ a.1 = k := fun e => by rw [e, lt_irr] at c; cases c
      rw [pos_succ c, decide_eq_false hne, Bool.false_or, ih h2]
      simp
    · have hp : F.pos (a :: l) k = 0 := by
        unfold F.pos
        rw [List.takeWhile_cons_of_neg (by rw [c, lt_irr]; decide)]; rfl
      rw [hp]
      simp [c]
    · have hp : F.pos (a :: l) k = 0 := by
        unfold F.pos
        rw [List.takeWhile_cons_of_neg (by rw [lt_asymm' c]; decide)]; rfl
      have hne : ¬ a.1 = k := fun e => by rw [e, lt_irr] at c; cases c
      rw [hp, decide_eq_false hne, has_not (fun b hb => lt_trans' c (h1 b hb))]
      simp [hne]
theorem val_pos {l : List F.Row} {k : List UInt8} (h : F.srt l = true) (hh : F.has l k = true) : F.val l k = (l.getD (F.pos l k) F.r0).2 := by
  induction l with
  | nil => cases hh
  | cons a l ih =>
    obtain ⟨h1, h2⟩ := srt_cons.1 h
    rw [has_cons] at hh
    unfold F.val
    by_cases c : a.1 = k
    · have hp : F.pos (a :: l) k = 0 := by
        unfold F.pos
        rw [List.takeWhile_cons_of_neg (by rw [c, lt_irr]; decide)]; rfl
      rw [if_pos c, hp]; rfl
    · rw [decide_eq_false c, Bool.false_or] at hh
      rw [if_neg c, ih h2 hh]
      obtain ⟨b, hb, e⟩ := List.any_eq_true.1 hh
      have e' : b.1 = k := of_decide_eq_true e
      have := h1 b hb
      rw [e'] at this
      rw [pos_succ this]; rfl
theorem val_none {l : List F.Row} {k : List UInt8} (hh : F.has l k = false) : F.val l k = [] := by
  induction l with
  | nil => rfl
  | cons a l ih =>
    rw [has_cons, Bool.or_eq_false_iff] at hh
    unfold F.val
    rw [if_neg (of_decide_eq_false hh.1), ih hh.2]
theorem wth_none {l : List F.Row} {k v : List UInt8} (hh : F.has l k = false) : F.wth k v true l = l := by
  induction l with
  | nil => rfl
  | cons a l ih =>
    rw [has_cons, Bool.or_eq_false_iff] at hh
    unfold F.wth
    rw [if_neg (of_decide_eq_false hh.1), if_neg (fun h => by cases h.1), ih hh.2]
/-- A key that is there: its value is changed in its place. -/
theorem wth_set {l : List F.Row} {k v : List UInt8} (h : F.srt l = true) (hh : F.has l k = true) : F.wth k v false l = l.set (F.pos l k) (k, v) := by
  induction l with
  | nil => cases hh
  | cons a l ih =>
    obtain ⟨h1, h2⟩ := srt_cons.1 h
    rw [has_cons] at hh
    unfold F.wth
    by_cases c : a.1 = k
    · have hp : F.pos (a :: l) k = 0 := by
        unfold F.pos
        rw [List.takeWhile_cons_of_neg (by rw [c, lt_irr]; decide)]; rfl
      rw [if_pos c, hp, List.set_cons_zero]
      have key : ∀ l' : List F.Row, (∀ b ∈ l', F.lt k b.1 = true) → F.wth k v false l' = (k, v) :: l' := by
        intro l' hl'
        cases l' with
        | nil => rfl
        | cons b l' =>
          have hb := hl' b (List.mem_cons_self ..)
          have hne : ¬ b.1 = k := fun e => by rw [e, lt_irr] at hb; cases hb
          unfold F.wth
          rw [if_neg hne, if_pos ⟨rfl, hb⟩, wth_none (has_not fun b hb => hl' b (List.mem_cons_of_mem _ hb))]
      exact key l fun b hb => by rw [← c]; exact h1 b hb
    · rw [decide_eq_false c, Bool.false_or] at hh
      obtain ⟨b, hb, e⟩ := List.any_eq_true.1 hh
      have e' : b.1 = k := of_decide_eq_true e
      have hlt := h1 b hb
      rw [e'] at hlt
      rw [if_neg c, if_neg (fun h => by rw [lt_asymm' hlt] at h; cases h.2), pos_succ hlt, List.set_cons_succ, ih h2 hh]
/-- A key that is not there: a row is put in at its place. -/
theorem wth_ins {l : List F.Row} {k v : List UInt8} (h : F.srt l = true) (hh : F.has l k = false) : F.wth k v false l = l.take (F.pos l k) ++ [(k, v)] ++ l.drop (F.pos l k) := by
  induction l with
  | nil => rfl
  | cons a l ih =>
    obtain ⟨h1, h2⟩ := srt_cons.1 h
    rw [has_cons, Bool.or_eq_false_iff] at hh
    have c := of_decide_eq_false hh.1
    unfold F.wth
    rw [if_neg c]
    rcases lt_tri a.1 k with q | q | q
    · rw [if_neg (fun h => by rw [lt_asymm' q] at h; cases h.2), pos_succ q, ih h2 hh.2]
      simp
    · exact absurd q c
    · have hp : F.pos (a :: l) k = 0 := by
        unfold F.pos
        rw [List.takeWhile_cons_of_neg (by rw [lt_asymm' q]; decide)]; rfl
      rw [if_pos ⟨rfl, q⟩, wth_none hh.2, hp]
      rfl
/-- A key that is there: its row is taken out. -/
theorem wth_del {l : List F.Row} {k v : List UInt8} (h : F.srt l = true) (hh : F.has l k = true) : F.wth k v true l = l.eraseIdx (F.pos l k) := by
  induction l with
  | nil => cases hh
  | cons a l ih =>
    obtain ⟨h1, h2⟩ := srt_cons.1 h
    rw [has_cons] at hh
    unfold F.wth
    by_cases c : a.1 = k
    · have hp : F.pos (a :: l) k = 0 := by
        unfold F.pos
        rw [List.takeWhile_cons_of_neg (by rw [c, lt_irr]; decide)]; rfl
      rw [if_pos c, hp, wth_none (has_not fun b hb => by rw [← c]; exact h1 b hb)]; rfl
    · rw [decide_eq_false c, Bool.false_or] at hh
      obtain ⟨b, hb, e⟩ := List.any_eq_true.1 hh
      have e' : b.1 = k := of_decide_eq_true e
      have hlt := h1 b hb
      rw [e'] at hlt
      rw [if_neg c, if_neg (fun h => by cases h.1), pos_succ hlt, ih h2 hh]; rfl
theorem wth_len {l : List F.Row} {k v : List UInt8} (h : F.srt l = true) : (F.wth k v false l).length = if F.has l k = true then l.length else l.length + 1 := by
  split
  · rename_i hh
    rw [wth_set h hh, List.length_set]
  · rename_i hh
    rw [wth_ins h (by simpa using hh)]
    have := pos_le l k
    simp only [List.length_append, List.length_take, List.length_drop, List.length_cons, List.length_nil]
    omega
end Go.Proofs.YtiolfkmkbccndaaGreatDoor
end
