/- Part of a claim: lemmas on the way to its theorem; each states its own conditions. -/
import Derived.Test.YtiolfkmkbccndaaGreatDoorBd27
namespace Go.Proofs.YtiolfkmkbccndaaGreatDoor
open Sym Go.RowKit
noncomputable section
set_option maxRecDepth 100000
set_option maxHeartbeats 4000000



namespace F
def short (l : List Row) : Prop := ∀ r ∈ l, r.1.length ≤ 1000000000000000 ∧ r.2.length ≤ 1000000000000000
def bad : Option (List UInt8) → List UInt8 → Bool
  | none, _ => false
  | some k, x => !lt k x
def ck : Option (List UInt8) → List Row → Int
  | _, [] => 0
  | p, r :: l => if key r.1 = false ∨ value r.2 = false then 3 else if bad p r.1 = true then 7 else ck (some r.1) l
def chk (l : List Row) : Int := if 64 < l.length then 2 else ck none l
def getV (l : List Row) (k : List UInt8) : List UInt8 := if chk l = 0 then val l k else []
def getE (l : List Row) (k : List UInt8) : Int := if chk l = 0 then (if has l k = true then 0 else 8) else chk l
def eqR (a b : List Row) : Bool := decide (a = b)
end F


theorem drop_gd {l : List F.Row} {j : Nat} (h : j < l.length) : l.drop j = l.getD j F.r0 :: l.drop (j + 1) := by
  rw [List.drop_eq_getElem_cons h, List.getD, List.getElem?_eq_getElem h]
  rfl
theorem mem_gd {l : List F.Row} {j : Nat} (h : j < l.length) : l.getD j F.r0 ∈ l := by
  rw [List.getD, List.getElem?_eq_getElem h]
  exact List.getElem_mem _
theorem ck_cons {p : Option (List UInt8)} {r : F.Row} {l : List F.Row} : F.ck p (r :: l) = if F.key r.1 = false ∨ F.value r.2 = false then 3 else if F.bad p r.1 = true then 7 else F.ck (some r.1) l := by
  cases p <;> rfl
theorem ck0 : ∀ {l : List F.Row} {p : Option (List UInt8)}, F.ck p l = 0 → F.srt l = true ∧ (∀ r ∈ l, F.key r.1 = true ∧ F.value r.2 = true) ∧ ∀ k, p = some k → ∀ r ∈ l, F.lt k r.1 = true
  | [], _, _ => ⟨rfl, fun _ h => absurd h (List.not_mem_nil), fun _ _ _ h => absurd h (List.not_mem_nil)⟩
  | r :: l, p, h => by
    rw [ck_cons] at h
    by_cases c : F.key r.1 = false ∨ F.value r.2 = false
    · rw [if_pos c] at h; cases h
    · rw [if_neg c] at h
      by_cases c2 : F.bad p r.1 = true
      · rw [if_pos c2] at h; cases h
      · rw [if_neg c2] at h
        obtain ⟨i1, i2, i3⟩ := ck0 h
        have i4 := i3 _ rfl
        have c' : F.key r.1 = true ∧ F.value r.2 = true := by
          constructor
          · cases e : F.key r.1
            · exact absurd (.inl e) c
            · rfl
          · cases e : F.value r.2
            · exact absurd (.inr e) c
            · rfl
        refine ⟨srt_cons.2 ⟨i4, i1⟩, fun x hx => ?_, fun k hk x hx => ?_⟩
        · rcases List.mem_cons.1 hx with rfl | hx
          · exact c'
          · exact i2 x hx
        · subst hk
          have c3 : F.lt k r.1 = true := by
            cases e : F.lt k r.1
            · exact absurd (by simp [F.bad, e]) c2
            · rfl
          rcases List.mem_cons.1 hx with rfl | hx
          · exact c3
          · exact lt_trans' c3 (i4 x hx)
theorem chk0 {l : List F.Row} (h : F.chk l = 0) : l.length ≤ 64 ∧ F.srt l = true ∧ ∀ r ∈ l, F.key r.1 = true ∧ F.value r.2 = true := by
  unfold F.chk at h
  split at h
  · cases h
  · rename_i c
    obtain ⟨h1, h2, _⟩ := ck0 h
    exact ⟨by omega, h1, h2⟩
theorem half {i j : Nat} (h : i + j ≤ 2000000) : Int.fdiv (IntKind.wrap IntKind.u64 ((i : Int) + (j : Int))) (2 ^ min (Int.toNat 1) 64) = (((i + j) / 2 : Nat) : Int) := by
  have e1 : IntKind.wrap IntKind.u64 ((i : Int) + (j : Int)) = (i : Int) + (j : Int) := by
    rw [show IntKind.wrap IntKind.u64 ((i : Int) + (j : Int)) = ((i : Int) + (j : Int)) % 18446744073709551616 from rfl]
    omega
  have e2 : ((2 : Int) ^ min (Int.toNat 1) 64) = 2 := by decide
  rw [e1, e2, Int.fdiv_eq_ediv_of_nonneg _ (by decide)]
  omega


def cuts_check : Cuts := [(4, [0, 8, 9, 10], 1)]

theorem check_t0 (l : List (List UInt8 × List UInt8)) (l_t : Bool) : symF C_isval cuts_check Tryz.f22.results.toList 1 400 [.code (codeOf Tryz.f22)] ⟨argsS Tryz.f22 [.c (.slc 0 0 (List.length l) l_t)], ([.inp 1 l] : Heap cod)⟩ =
 cond (decide (64 < Int.ofNat (List.length l))) (
 .ret (.fin (.c (.int .i64 2)) [])) (
 .ret (.cut (cutAt Tryz.f22 4) ⟨tmG 30 [(0, .c (.slc 0 0 (List.length l) l_t)), (7, .c (.slc 0 0 (List.length l) l_t)), (0, .c (.int .i64 (Int.ofNat (List.length l)))), (0, .c (.int .i64 0))], [.inp 1 l]⟩)) := by kernel_rfl


noncomputable def st_check_4 (l : List (List UInt8 × List UInt8)) (l_t : Bool) (i : Int) : St cod := ⟨tmG 30 [(0, .c (.slc 0 0 (List.length l) l_t)), (7, .c (.slc 0 0 (List.length l) l_t)), (0, .c (.int .i64 (Int.ofNat (List.length l)))), (0, .c (.int .i64 i))], [.inp 1 l]⟩


theorem check_t4 (l : List (List UInt8 × List UInt8)) (l_t : Bool) (i : Int) : symF C_isval cuts_check Tryz.f22.results.toList 1 400 (cutAt Tryz.f22 4) (st_check_4 l l_t i) =
 cond (decide (i < Int.ofNat (List.length l))) (
 .need (((0 : Int) ≤ i ∧ i < Int.ofNat (List.length l))) (
 .need (0 + Int.toNat i < List.length l) (
 .need (List.length (List.getD l (0 + Int.toNat i) (cod 1).d).1 ≤ 1000000000000000) (
 cond (!F.key (List.getD l (0 + Int.toNat i) (cod 1).d).1) (
  .ret (.fin (.c (.int .i64 3)) [])) (
  .need (List.length (List.getD l (0 + Int.toNat i) (cod 1).d).2 ≤ 1000000000000000) (
  cond (!F.value (List.getD l (0 + Int.toNat i) (cod 1).d).2) (
   .ret (.fin (.c (.int .i64 3)) [])) (
   cond (decide (0 < i)) (
    .need (i64ok (i - 1)) (
    .need (((0 : Int) ≤ i - 1 ∧ i - 1 < Int.ofNat (List.length l))) (
    .need (0 + Int.toNat (i - 1) < List.length l) (
    cond (Op.bytesLess (List.getD l (0 + Int.toNat i) (cod 1).d).1 (List.getD l (0 + Int.toNat (i - 1)) (cod 1).d).1 ||   decide ((List.getD l (0 + Int.toNat i) (cod 1).d).1 = (List.getD l (0 + Int.toNat (i - 1)) (cod 1).d).1)) (
     .ret (.fin (.c (.int .i64 7)) [])) (
     .need (i64ok (i + 1)) (
     .ret (.cut (cutAt Tryz.f22 4) ⟨tmG 30 [(0, .c (.slc 0 0 (List.length l) l_t)), (7, .c (.slc 0 0 (List.length l) l_t)), (0, .c (.int .i64 (Int.ofNat (List.length l)))), (0, .c (.int .i64 (i + 1)))], [.inp 1 l]⟩))))))) (
    .need (i64ok (i + 1)) (
    .ret (.cut (cutAt Tryz.f22 4) ⟨tmG 30 [(0, .c (.slc 0 0 (List.length l) l_t)), (7, .c (.slc 0 0 (List.length l) l_t)), (0, .c (.int .i64 (Int.ofNat (List.length l)))), (0, .c (.int .i64 (i + 1)))], [.inp 1 l]⟩)))))))))) (
 .ret (.fin (.c (.int .i64 0)) [])) := by kernel_rfl



theorem check_run (l : List (List UInt8 × List UInt8)) (l_t : Bool) (b0 : Base) (hb : b0.n = 1) (h0 : F.short l) : Sym.Runs Tryz.prog b0 [.code (codeOf Tryz.f22)] ⟨argsS Tryz.f22 [.c (.slc 0 0 (List.length l) l_t)], ([.inp 1 l] : Heap cod)⟩ (Sym.Ends Tryz.prog Tryz.f22 1 (.c (.int .i64 (F.chk l))) []) := by
  have e0 : ∀ k, List.getD l k (cod 1).d = List.getD l k F.r0 := fun _ => rfl
  have key : ∀ (m j : Nat) (p : Option (List UInt8)), j + m = l.length → ((j = 0 ∧ p = none) ∨ (0 < j ∧ p = some (List.getD l (j - 1) F.r0).1)) → F.chk l = F.ck p (l.drop j) → l.length ≤ 64 →
      Sym.Runs Tryz.prog b0 (cutAt Tryz.f22 4) (st_check_4 l l_t (j : Int)) (Sym.Ends Tryz.prog Tryz.f22 1 (.c (.int .i64 (F.chk l))) []) := by
    intro m
    induction m with
    | zero =>
      intro j p hm hp hc h64
      refine Runs.go (cfg := C_isval) L_isval_ok mixed cuts_check 400 hb (check_t4 l l_t (j : Int)) ?_
      rw [List.drop_of_length_le (by omega)] at hc
      simp only [T.wp, T.wp_cond, Aft, Int.ofNat_eq_natCast, decide_eq_true_eq, and_true, Nat.zero_add, Bool.not_eq_true']
      refine ite_no (by omega) ?_
      rw [hc]; rfl
    | succ m ih =>
      intro j p hm hp hc h64
      refine Runs.go (cfg := C_isval) L_isval_ok mixed cuts_check 400 hb (check_t4 l l_t (j : Int)) ?_
      have hj : j < l.length := by omega
      have hs := h0 _ (mem_gd hj)
      rw [drop_gd hj, ck_cons] at hc
      have nx := ih (j + 1) (some (l.getD j F.r0).1) (by omega) (.inr ⟨by omega, rfl⟩)
      simp only [T.wp, T.wp_cond, Aft, Int.ofNat_eq_natCast, decide_eq_true_eq, and_true, Nat.zero_add, Bool.not_eq_true', Int.toNat_natCast, e0]
      generalize hr : l.getD j F.r0 = r at *
      refine ite_yes (by omega) ⟨⟨by omega, by omega⟩, hj, hs.1, ?_⟩
      by_cases c1 : F.key r.1 = false
      · refine ite_yes c1 ?_
        rw [hc, if_pos (.inl c1)]
      · refine ite_no c1 ⟨hs.2, ?_⟩
        by_cases c2 : F.value r.2 = false
        · refine ite_yes c2 ?_
          rw [hc, if_pos (.inr c2)]
        · refine ite_no c2 ?_
          rw [if_neg (by rintro (h | h); exact c1 h; exact c2 h)] at hc
          rcases hp with ⟨rfl, rfl⟩ | ⟨hj0, rfl⟩
          · rw [if_neg (by simp [F.bad])] at hc
            exact ite_no (by omega) ⟨by unfold i64ok; omega, nx hc h64⟩
          · have e1 : ((j : Int) - 1).toNat = j - 1 := by omega
            rw [e1]
            generalize l.getD (j - 1) F.r0 = q at *
            refine ite_yes (by omega) ⟨by unfold i64ok; omega, ⟨by omega, by omega⟩, by omega, ?_⟩
            cases c3 : F.lt q.1 r.1 with
            | false =>
              refine ite_yes (c := (F.lt r.1 q.1 || decide (r.1 = q.1)) = true) (by rw [lt_not, c3]; rfl) ?_
              rw [hc, if_pos (by simp [F.bad, c3])]
            | true =>
              refine ite_no (c := (F.lt r.1 q.1 || decide (r.1 = q.1)) = true) (by rw [lt_not, c3]; decide) ⟨by unfold i64ok; omega, nx ?_ h64⟩
              rw [hc, if_neg (by simp [F.bad, c3])]
  refine Runs.go (cfg := C_isval) L_isval_ok mixed cuts_check 400 hb (check_t0 l l_t) ?_
  simp only [T.wp, T.wp_cond, Aft, Int.ofNat_eq_natCast, decide_eq_true_eq, and_true]
  by_cases c : (64 : Int) < (l.length : Int)
  · refine ite_yes c ?_
    unfold F.chk
    rw [if_pos (by omega)]
  · refine ite_no c (key l.length 0 none (by omega) (.inl ⟨rfl, rfl⟩) ?_ (by omega))
    unfold F.chk
    rw [if_neg (by omega)]; rfl



noncomputable def s_check : Summ cod := fun args H => match args, H with
  | [.c (.slc 0 l_i l_n l_t)], [o0] => (match o0.asInp 1 with | some l => .need ((l_i = 0 ∧ l_n = List.length l) ∧ (F.short l)) (.ret (.c (.int .i64 (F.chk l)), [])) | none => .fail)
  | _, _ => .fail


theorem check_sound : Sound Tryz.prog cod 22 s_check := sound_runs (cfg := C_isval) L_isval_ok mixed Tryz.func22 rfl rfl _ fun args H r news hg b0 hb => by
  unfold s_check at hg
  split at hg
  · skip
    split at hg
    · rename_i l hx0
      cases asInp_spec hx0
      simp only [T.gives, T.wp, Prod.mk.injEq] at hg
      obtain ⟨⟨⟨rfl, rfl⟩, q1⟩, rfl, rfl⟩ := hg
      exact check_run _ _ b0 hb (by assumption)
    · exact hg.elim
  · exact hg.elim

noncomputable def L_check : Sums cod := (22, .p s_check) :: L_isval
noncomputable def C_check : Cfg cod := mkC L_check

theorem L_check_ok : Snd Tryz.prog cod L_check := .cons check_sound L_isval_ok



noncomputable def s_find1 : Summ cod := autoS C_check Tryz.f59 400


theorem find1_sound : Sound Tryz.prog cod 59 s_find1 := auto_sound (cfg := C_check) L_check_ok mixed Tryz.func59 rfl rfl 400

noncomputable def L_find1 : Sums cod := (59, .p s_find1) :: L_check
noncomputable def C_find1 : Cfg cod := mkC L_find1

theorem L_find1_ok : Snd Tryz.prog cod L_find1 := .cons find1_sound L_check_ok



def cuts_bsf : Cuts := [(3, [1, 0, 2, 10, 8, 9], 1)]

theorem bsf_t0 (l : List (List UInt8 × List UInt8)) (l_t : Bool) (k : List UInt8) : symF C_find1 cuts_bsf Tryz.f58.results.toList 1 400 [.code (codeOf Tryz.f58)] ⟨argsS Tryz.f58 [.c (.slc 0 0 (List.length l) l_t), .c (.str k), .c (.fn 59 [])], ([.inp 1 l] : Heap cod)⟩ =
.ret (.cut (cutAt Tryz.f58 3) ⟨tmG 38 [(0, .c (.slc 0 0 (List.length l) l_t)), (0, .c (.str k)), (0, .c (.fn 59 [])), (5, .c (.int .i64 (Int.ofNat (List.length l)))), (0, .c (.int .i64 0)), (0, .c (.int .i64 (Int.ofNat (List.length l))))], [.inp 1 l]⟩) := by kernel_rfl


noncomputable def st_bsf_3 (l : List (List UInt8 × List UInt8)) (l_t : Bool) (k : List UInt8) (i j : Int) : St cod := ⟨tmG 38 [(0, .c (.slc 0 0 (List.length l) l_t)), (0, .c (.str k)), (0, .c (.fn 59 [])), (5, .c (.int .i64 (Int.ofNat (List.length l)))), (0, .c (.int .i64 i)), (0, .c (.int .i64 j))], [.inp 1 l]⟩


theorem bsf_t3 (l : List (List UInt8 × List UInt8)) (l_t : Bool) (k : List UInt8) (i j : Int) : symF C_find1 cuts_bsf Tryz.f58.results.toList 1 400 (cutAt Tryz.f58 3) (st_bsf_3 l l_t k i j) =
 cond (decide (i < j)) (
 .need (i64ok (i + j)) (
 .need ((0 : Int) ≤ 1) (
 .need (i64ok (Int.fdiv (IntKind.wrap IntKind.u64 (i + j)) (2 ^ min (Int.toNat 1) 64))) (
 .need (((0 : Int) ≤ Int.fdiv (IntKind.wrap IntKind.u64 (i + j)) (2 ^ min (Int.toNat 1) 64) ∧ Int.fdiv (IntKind.wrap IntKind.u64 (i + j)) (2 ^ min (Int.toNat 1) 64) < Int.ofNat (List.length l))) (
 .need (0 + Int.toNat (Int.fdiv (IntKind.wrap IntKind.u64 (i + j)) (2 ^ min (Int.toNat 1) 64)) < List.length l) (
 cond (decide   (F.cmp       (List.getD l (0 + Int.toNat (Int.fdiv (IntKind.wrap IntKind.u64 (i + j)) (2 ^ min (Int.toNat 1) 64))) (cod 1).d).1       k <     0)) (
  .need (i64ok (Int.fdiv (IntKind.wrap IntKind.u64 (i + j)) (2 ^ min (Int.toNat 1) 64) + 1)) (
  .ret (.cut (cutAt Tryz.f58 3) ⟨tmG 38 [(0, .c (.slc 0 0 (List.length l) l_t)), (0, .c (.str k)), (0, .c (.fn 59 [])), (5, .c (.int .i64 (Int.ofNat (List.length l)))), (0, .c (.int .i64 (Int.fdiv (IntKind.wrap IntKind.u64 (i + j)) (2 ^ min (Int.toNat 1) 64) + 1))), (0, .c (.int .i64 j))], [.inp 1 l]⟩))) (
  .ret (.cut (cutAt Tryz.f58 3) ⟨tmG 38 [(0, .c (.slc 0 0 (List.length l) l_t)), (0, .c (.str k)), (0, .c (.fn 59 [])), (5, .c (.int .i64 (Int.ofNat (List.length l)))), (0, .c (.int .i64 i)), (0, .c (.int .i64 (Int.fdiv (IntKind.wrap IntKind.u64 (i + j)) (2 ^ min (Int.toNat 1) 64))))], [.inp 1 l]⟩)))))))) (
 cond (decide (i < Int.ofNat (List.length l))) (
  .need (((0 : Int) ≤ i ∧ i < Int.ofNat (List.length l))) (
  .need (0 + Int.toNat i < List.length l) (
  .ret (.fin (.tup [.c (.int .i64 i), .c (.bool (decide (F.cmp (List.getD l (0 + Int.toNat i) (cod 1).d).1 k = 0)))]) [])))) (
  .ret (.fin (.tup [.c (.int .i64 i), .c (.bool false)]) []))) := by kernel_rfl



theorem bsf_run (l : List (List UInt8 × List UInt8)) (l_t : Bool) (k : List UInt8) (b0 : Base) (hb : b0.n = 1) (h0 : F.srt l = true) (h1 : l.length ≤ 1000000) : Sym.Runs Tryz.prog b0 [.code (codeOf Tryz.f58)] ⟨argsS Tryz.f58 [.c (.slc 0 0 (List.length l) l_t), .c (.str k), .c (.fn 59 [])], ([.inp 1 l] : Heap cod)⟩ (Sym.Ends Tryz.prog Tryz.f58 1 (.tup [.c (.int .i64 (F.pos l k : Int)), .c (.bool (F.has l k))]) []) := by
  have e0 : ∀ k, List.getD l k (cod 1).d = List.getD l k F.r0 := fun _ => rfl
  have key : ∀ (n i j : Nat), j - i ≤ n → i ≤ j → j ≤ l.length → (∀ m, m < i → F.lt (l.getD m F.r0).1 k = true) → (∀ m, j ≤ m → m < l.length → F.lt (l.getD m F.r0).1 k = false) →
      Sym.Runs Tryz.prog b0 (cutAt Tryz.f58 3) (st_bsf_3 l l_t k (i : Int) (j : Int)) (Sym.Ends Tryz.prog Tryz.f58 1 (.tup [.c (.int .i64 (F.pos l k : Int)), .c (.bool (F.has l k))]) []) := by
    intro n
    induction n with
    | zero =>
      intro i j hn hij hj p1 p2
      have hij' : i = j := by omega
      subst hij'
      refine Runs.go (cfg := C_find1) L_find1_ok mixed cuts_bsf 400 hb (bsf_t3 l l_t k (i : Int) (i : Int)) ?_
      have hp : F.pos l k = i := pos_eq hj p1 p2
      have hh := has_pos (k := k) h0
      rw [hp] at hh ⊢
      simp only [T.wp, T.wp_cond, Aft, Int.ofNat_eq_natCast, decide_eq_true_eq, and_true, Nat.zero_add, Int.toNat_natCast, e0]
      refine ite_no (by omega) ?_
      by_cases c : i < l.length
      · refine ite_yes (by omega) ⟨⟨by omega, by omega⟩, c, ?_⟩
        have e : decide (F.cmp (l.getD i F.r0).1 k = 0) = decide ((l.getD i F.r0).1 = k) := by
          rw [decide_eq_decide]
          exact cmp_eq0
        rw [hh, decide_eq_true c, Bool.true_and, ← e]
      · refine ite_no (by omega) ?_
        rw [hh, decide_eq_false c, Bool.false_and]
    | succ n ih =>
      intro i j hn hij hj p1 p2
      by_cases hij' : i = j
      · exact ih i j (by omega) hij hj p1 p2
      · refine Runs.go (cfg := C_find1) L_find1_ok mixed cuts_bsf 400 hb (bsf_t3 l l_t k (i : Int) (j : Int)) ?_
        have eh := half (i := i) (j := j) (by omega)
        simp only [T.wp, T.wp_cond, Aft, Int.ofNat_eq_natCast, decide_eq_true_eq, and_true, Nat.zero_add, e0, eh, Int.toNat_natCast]
        have h1 : i ≤ (i + j) / 2 := by omega
        have h2 : (i + j) / 2 < j := by omega
        have n1 := ih ((i + j) / 2 + 1) j (by omega) (by omega) hj
        have n2 := ih i ((i + j) / 2) (by omega) (by omega) (by omega)
        generalize (i + j) / 2 = h at *
        refine ite_yes (by omega) ⟨by unfold i64ok; omega, by decide, by unfold i64ok; omega, ⟨by omega, by omega⟩, by omega, ?_⟩
        by_cases c : F.lt (l.getD h F.r0).1 k = true
        · refine ite_yes (cmp_lt.2 c) ⟨by unfold i64ok; omega, n1 (fun m hm => ?_) p2⟩
          rcases Nat.lt_or_ge m h with q | q
          · exact lt_trans' (srt_lt h0 q (by omega)) c
          · rwa [show m = h by omega]
        · refine ite_no (fun q => c (cmp_lt.1 q)) (n2 p1 fun m hm hml => ?_)
          rcases Nat.lt_or_ge h m with q | q
          · rw [Bool.eq_false_iff]
            exact fun e => c (lt_trans' (srt_lt h0 q hml) e)
          · rw [show m = h by omega]
            simpa using c
  refine Runs.go (cfg := C_find1) L_find1_ok mixed cuts_bsf 400 hb (bsf_t0 l l_t k) ?_
  simp only [T.wp, Aft, Int.ofNat_eq_natCast]
  exact key l.length 0 l.length (by omega) (by omega) (by omega) (fun m hm => by omega) (fun m h1 h2 => by omega)



noncomputable def s_bsf : Summ cod := fun args H => match args, H with
  | [.c (.slc 0 l_i l_n l_t), .c (.str k), .c (.fn 59 [])], [o0] => (match o0.asInp 1 with | some l => .need ((l_i = 0 ∧ l_n = List.length l) ∧ (F.srt l = true) ∧ (l.length ≤ 1000000)) (.ret (.tup [.c (.int .i64 (F.pos l k : Int)), .c (.bool (F.has l k))], [])) | none => .fail)
  | _, _ => .fail


theorem bsf_sound : Sound Tryz.prog cod 58 s_bsf := sound_runs (cfg := C_find1) L_find1_ok mixed Tryz.func58 rfl rfl _ fun args H r news hg b0 hb => by
  unfold s_bsf at hg
  split at hg
  · skip
    split at hg
    · rename_i l hx0
      cases asInp_spec hx0
      simp only [T.gives, T.wp, Prod.mk.injEq] at hg
      obtain ⟨⟨⟨rfl, rfl⟩, q1, q2⟩, rfl, rfl⟩ := hg
      exact bsf_run _ _ _ b0 hb (by assumption) (by assumption)
    · exact hg.elim
  · exact hg.elim

noncomputable def L_bsf : Sums cod := (58, .p s_bsf) :: L_find1
noncomputable def C_bsf : Cfg cod := mkC L_bsf

theorem L_bsf_ok : Snd Tryz.prog cod L_bsf := .cons bsf_sound L_find1_ok



def cuts_find : Cuts := []

theorem find_t0 (l : List (List UInt8 × List UInt8)) (l_t : Bool) (k : List UInt8) : symF C_bsf cuts_find Tryz.f45.results.toList 1 400 [.code (codeOf Tryz.f45)] ⟨argsS Tryz.f45 [.c (.slc 0 0 (List.length l) l_t), .c (.str k)], ([.inp 1 l] : Heap cod)⟩ =
.need (((0 = 0 ∧ List.length l = List.length l) ∧ (F.srt l = true ∧ List.length l ≤ 1000000))) (
.ret (.fin (.tup [.c (.int .i64 (Int.ofNat (F.pos l k))), .c (.bool (F.has l k))]) [])) := by kernel_rfl



theorem find_run (l : List (List UInt8 × List UInt8)) (l_t : Bool) (k : List UInt8) (b0 : Base) (hb : b0.n = 1) (h0 : F.srt l = true) (h1 : l.length ≤ 1000000) : Sym.Runs Tryz.prog b0 [.code (codeOf Tryz.f45)] ⟨argsS Tryz.f45 [.c (.slc 0 0 (List.length l) l_t), .c (.str k)], ([.inp 1 l] : Heap cod)⟩ (Sym.Ends Tryz.prog Tryz.f45 1 (.tup [.c (.int .i64 (F.pos l k : Int)), .c (.bool (F.has l k))]) []) := by
  refine Runs.go (cfg := C_bsf) L_bsf_ok mixed cuts_find 400 hb (find_t0 l l_t k) ?_
  simp only [T.wp, Aft, Int.ofNat_eq_natCast, and_true, true_and]
  exact ⟨h0, h1⟩



noncomputable def s_find : Summ cod := fun args H => match args, H with
  | [.c (.slc 0 l_i l_n l_t), .c (.str k)], [o0] => (match o0.asInp 1 with | some l => .need ((l_i = 0 ∧ l_n = List.length l) ∧ (F.srt l = true) ∧ (l.length ≤ 1000000)) (.ret (.tup [.c (.int .i64 (F.pos l k : Int)), .c (.bool (F.has l k))], [])) | none => .fail)
  | _, _ => .fail


theorem find_sound : Sound Tryz.prog cod 45 s_find := sound_runs (cfg := C_bsf) L_bsf_ok mixed Tryz.func45 rfl rfl _ fun args H r news hg b0 hb => by
  unfold s_find at hg
  split at hg
  · skip
    split at hg
    · rename_i l hx0
      cases asInp_spec hx0
      simp only [T.gives, T.wp, Prod.mk.injEq] at hg
      obtain ⟨⟨⟨rfl, rfl⟩, q1, q2⟩, rfl, rfl⟩ := hg
      exact find_run _ _ _ b0 hb (by assumption) (by assumption)
    · exact hg.elim
  · exact hg.elim

noncomputable def L_find : Sums cod := (45, .p s_find) :: L_bsf
noncomputable def C_find : Cfg cod := mkC L_find

theorem L_find_ok : Snd Tryz.prog cod L_find := .cons find_sound L_bsf_ok



def cuts_get : Cuts := []

theorem get_t0 (l : List (List UInt8 × List UInt8)) (l_t : Bool) (k : List UInt8) : symF C_find cuts_get Tryz.f44.results.toList 1 400 [.code (codeOf Tryz.f44)] ⟨argsS Tryz.f44 [.c (.slc 0 0 (List.length l) l_t), .c (.str k)], ([.inp 1 l] : Heap cod)⟩ =
.need (((0 = 0 ∧ List.length l = List.length l) ∧ F.short l)) (
 cond (!decide (F.chk l = 0)) (
 .ret (.fin (.tup [.c (.str []), .c (.int .i64 (F.chk l))]) [])) (
 .need (((0 = 0 ∧ List.length l = List.length l) ∧ (F.srt l = true ∧ List.length l ≤ 1000000))) (
 cond (!F.has l k) (
  .ret (.fin (.tup [.c (.str []), .c (.int .i64 8)]) [])) (
  .need (((0 : Int) ≤ Int.ofNat (F.pos l k) ∧ Int.ofNat (F.pos l k) < Int.ofNat (List.length l))) (
  .need (0 + Int.toNat (Int.ofNat (F.pos l k)) < List.length l) (
  .ret (.fin (.tup [.c (.str ((List.getD l (0 + Int.toNat (Int.ofNat (F.pos l k))) (cod 1).d).2)), .c (.int .i64 0)]) []))))))) := by kernel_rfl



theorem get_run (l : List (List UInt8 × List UInt8)) (l_t : Bool) (k : List UInt8) (b0 : Base) (hb : b0.n = 1) (h0 : F.short l) : Sym.Runs Tryz.prog b0 [.code (codeOf Tryz.f44)] ⟨argsS Tryz.f44 [.c (.slc 0 0 (List.length l) l_t), .c (.str k)], ([.inp 1 l] : Heap cod)⟩ (Sym.Ends Tryz.prog Tryz.f44 1 (.tup [.c (.str (F.getV l k)), .c (.int .i64 (F.getE l k))]) []) := by
  have e0 : ∀ k, List.getD l k (cod 1).d = List.getD l k F.r0 := fun _ => rfl
  unfold F.getV F.getE
  refine Runs.go (cfg := C_find) L_find_ok mixed cuts_get 400 hb (get_t0 l l_t k) ?_
  simp only [T.wp, T.wp_cond, Aft, Int.ofNat_eq_natCast, and_true, true_and, Nat.zero_add, Bool.not_eq_true', decide_eq_false_iff_not, e0, Int.toNat_natCast]
  refine ⟨h0, ?_⟩
  by_cases c : F.chk l = 0
  · obtain ⟨c1, c2, _⟩ := chk0 c
    rw [if_pos c, if_pos c]
    refine ite_no (by simpa using c) ⟨⟨c2, by omega⟩, ?_⟩
    by_cases d : F.has l k = true
    · have hp := has_pos (k := k) c2
      rw [d] at hp
      have hp' := hp.symm
      rw [Bool.and_eq_true, decide_eq_true_eq] at hp'
      rw [if_pos d, val_pos c2 d]
      exact ite_no (by simp [d]) ⟨⟨by omega, by omega⟩, hp'.1, rfl⟩
    · have d' : F.has l k = false := by simpa using d
      rw [if_neg d, val_none d']
      exact ite_yes d' rfl
  · rw [if_neg c, if_neg c]
    exact ite_yes (by simpa using c) rfl



noncomputable def s_get : Summ cod := fun args H => match args, H with
  | [.c (.slc 0 l_i l_n l_t), .c (.str k)], [o0] => (match o0.asInp 1 with | some l => .need ((l_i = 0 ∧ l_n = List.length l) ∧ (F.short l)) (.ret (.tup [.c (.str (F.getV l k)), .c (.int .i64 (F.getE l k))], [])) | none => .fail)
  | _, _ => .fail


theorem get_sound : Sound Tryz.prog cod 44 s_get := sound_runs (cfg := C_find) L_find_ok mixed Tryz.func44 rfl rfl _ fun args H r news hg b0 hb => by
  unfold s_get at hg
  split at hg
  · skip
    split at hg
    · rename_i l hx0
      cases asInp_spec hx0
      simp only [T.gives, T.wp, Prod.mk.injEq] at hg
      obtain ⟨⟨⟨rfl, rfl⟩, q1⟩, rfl, rfl⟩ := hg
      exact get_run _ _ _ b0 hb (by assumption)
    · exact hg.elim
  · exact hg.elim

noncomputable def L_get : Sums cod := (44, .p s_get) :: L_find
noncomputable def C_get : Cfg cod := mkC L_get

theorem L_get_ok : Snd Tryz.prog cod L_get := .cons get_sound L_find_ok



def cuts_same : Cuts := [(4, [1, 0, 12, 13], 2)]

theorem same_t0 (a : List (List UInt8 × List UInt8)) (a_t : Bool) (b : List (List UInt8 × List UInt8)) (b_t : Bool) : symF C_get cuts_same Tryz.f18.results.toList 2 400 [.code (codeOf Tryz.f18)] ⟨argsS Tryz.f18 [.c (.slc 0 0 (List.length a) a_t), .c (.slc 1 0 (List.length b) b_t)], ([.inp 1 a, .inp 1 b] : Heap cod)⟩ =
 cond (!decide (Int.ofNat (List.length a) = Int.ofNat (List.length b))) (
 .ret (.fin (.c (.bool false)) [])) (
 .ret (.cut (cutAt Tryz.f18 4) ⟨tmG 12 [(0, .c (.slc 0 0 (List.length a) a_t)), (0, .c (.slc 1 0 (List.length b) b_t)), (10, .c (.int .i64 (Int.ofNat (List.length a)))), (0, .c (.int .i64 0))], [.inp 1 a, .inp 1 b]⟩)) := by kernel_rfl


noncomputable def st_same_4 (a : List (List UInt8 × List UInt8)) (a_t : Bool) (b : List (List UInt8 × List UInt8)) (b_t : Bool) (i : Int) : St cod := ⟨tmG 12 [(0, .c (.slc 0 0 (List.length a) a_t)), (0, .c (.slc 1 0 (List.length b) b_t)), (10, .c (.int .i64 (Int.ofNat (List.length a)))), (0, .c (.int .i64 i))], [.inp 1 a, .inp 1 b]⟩


theorem same_t4 (a : List (List UInt8 × List UInt8)) (a_t : Bool) (b : List (List UInt8 × List UInt8)) (b_t : Bool) (i : Int) : symF C_get cuts_same Tryz.f18.results.toList 2 400 (cutAt Tryz.f18 4) (st_same_4 a a_t b b_t i) =
 cond (decide (i < Int.ofNat (List.length a))) (
 .need (((0 : Int) ≤ i ∧ i < Int.ofNat (List.length a))) (
 .need (0 + Int.toNat i < List.length a) (
 .need (((0 : Int) ≤ i ∧ i < Int.ofNat (List.length b))) (
 .need (0 + Int.toNat i < List.length b) (
 cond (!(decide ((List.getD a (0 + Int.toNat i) (cod 1).d).1 = (List.getD b (0 + Int.toNat i) (cod 1).d).1) &&     decide ((List.getD a (0 + Int.toNat i) (cod 1).d).2 = (List.getD b (0 + Int.toNat i) (cod 1).d).2))) (
  .ret (.fin (.c (.bool false)) [])) (
  .need (i64ok (i + 1)) (
  .ret (.cut (cutAt Tryz.f18 4) ⟨tmG 12 [(0, .c (.slc 0 0 (List.length a) a_t)), (0, .c (.slc 1 0 (List.length b) b_t)), (10, .c (.int .i64 (Int.ofNat (List.length a)))), (0, .c (.int .i64 (i + 1)))], [.inp 1 a, .inp 1 b]⟩)))))))) (
 .ret (.fin (.c (.bool true)) [])) := by kernel_rfl



theorem same_run (a : List (List UInt8 × List UInt8)) (a_t : Bool) (b : List (List UInt8 × List UInt8)) (b_t : Bool) (b0 : Base) (hb : b0.n = 2) (h0 : a.length ≤ 1000000) : Sym.Runs Tryz.prog b0 [.code (codeOf Tryz.f18)] ⟨argsS Tryz.f18 [.c (.slc 0 0 (List.length a) a_t), .c (.slc 1 0 (List.length b) b_t)], ([.inp 1 a, .inp 1 b] : Heap cod)⟩ (Sym.Ends Tryz.prog Tryz.f18 2 (.c (.bool (F.eqR a b))) []) := by
  have e0 : ∀ k, List.getD a k (cod 1).d = List.getD a k F.r0 := fun _ => rfl
  have e1 : ∀ k, List.getD b k (cod 1).d = List.getD b k F.r0 := fun _ => rfl
  have key : ∀ (m j : Nat), j + m = a.length → a.length = b.length → F.eqR a b = F.eqR (a.drop j) (b.drop j) →
      Sym.Runs Tryz.prog b0 (cutAt Tryz.f18 4) (st_same_4 a a_t b b_t (j : Int)) (Sym.Ends Tryz.prog Tryz.f18 2 (.c (.bool (F.eqR a b))) []) := by
    intro m
    induction m with
    | zero =>
      intro j hm hl he
      refine Runs.go (cfg := C_get) L_get_ok mixed cuts_same 400 hb (same_t4 a a_t b b_t (j : Int)) ?_
      rw [List.drop_of_length_le (by omega), List.drop_of_length_le (by omega)] at he
      simp only [T.wp, T.wp_cond, Aft, Int.ofNat_eq_natCast, decide_eq_true_eq, and_true, Nat.zero_add, Bool.not_eq_true']
      refine ite_no (by omega) ?_
      rw [he]; rfl
    | succ m ih =>
      intro j hm hl he
      refine Runs.go (cfg := C_get) L_get_ok mixed cuts_same 400 hb (same_t4 a a_t b b_t (j : Int)) ?_
      have hj : j < a.length := by omega
      rw [drop_gd hj, drop_gd (show j < b.length by omega)] at he
      have nx := ih (j + 1) (by omega) hl
      simp only [T.wp, T.wp_cond, Aft, Int.ofNat_eq_natCast, decide_eq_true_eq, and_true, Nat.zero_add, Bool.not_eq_true', Int.toNat_natCast, e0, e1]
      generalize a.getD j F.r0 = r at *
      generalize b.getD j F.r0 = q at *
      refine ite_yes (by omega) ⟨⟨by omega, by omega⟩, hj, ⟨by omega, by omega⟩, by omega, ?_⟩
      have hd : (decide (r.1 = q.1) && decide (r.2 = q.2)) = decide (r = q) := by
        rw [← Bool.decide_and, decide_eq_decide]
        exact Prod.ext_iff.symm
      rw [hd]
      unfold F.eqR at he nx ⊢
      by_cases c : r = q
      · subst c
        refine ite_no (by simp) ⟨by unfold i64ok; omega, nx ?_⟩
        rw [he, decide_eq_decide, List.cons.injEq]
        exact ⟨fun h => h.2, fun h => ⟨rfl, h⟩⟩
      · refine ite_yes (by simpa using c) ?_
        rw [he, decide_eq_false (fun h => c (List.cons.inj h).1)]
  refine Runs.go (cfg := C_get) L_get_ok mixed cuts_same 400 hb (same_t0 a a_t b b_t) ?_
  simp only [T.wp, T.wp_cond, Aft, Int.ofNat_eq_natCast, and_true, Bool.not_eq_true', decide_eq_false_iff_not]
  by_cases c : (a.length : Int) = (b.length : Int)
  · exact ite_no (by simpa using c) (key a.length 0 (by omega) (by omega) rfl)
  · refine ite_yes (by simpa using c) ?_
    unfold F.eqR
    rw [decide_eq_false (fun h => c (by rw [h]))]



noncomputable def s_same : Summ cod := fun args H => match args, H with
  | [.c (.slc 0 a_i a_n a_t), .c (.slc 1 b_i b_n b_t)], [o0, o1] => (match o0.asInp 1 with | some a => (match o1.asInp 1 with | some b => .need ((a_i = 0 ∧ a_n = List.length a) ∧ (b_i = 0 ∧ b_n = List.length b) ∧ (a.length ≤ 1000000)) (.ret (.c (.bool (F.eqR a b)), [])) | none => .fail) | none => .fail)
  | _, _ => .fail


theorem same_sound : Sound Tryz.prog cod 18 s_same := sound_runs (cfg := C_get) L_get_ok mixed Tryz.func18 rfl rfl _ fun args H r news hg b0 hb => by
  unfold s_same at hg
  split at hg
  · skip
    split at hg
    · rename_i a hx0
      cases asInp_spec hx0
      split at hg
      · rename_i b hx1
        cases asInp_spec hx1
        simp only [T.gives, T.wp, Prod.mk.injEq] at hg
        obtain ⟨⟨⟨rfl, rfl⟩, ⟨rfl, rfl⟩, q2⟩, rfl, rfl⟩ := hg
        exact same_run _ _ _ _ b0 hb (by assumption)
      · exact hg.elim
    · exact hg.elim
  · exact hg.elim

noncomputable def L_same : Sums cod := (18, .p s_same) :: L_get
noncomputable def C_same : Cfg cod := mkC L_same

theorem L_same_ok : Snd Tryz.prog cod L_same := .cons same_sound L_get_ok


end
end Go.Proofs.YtiolfkmkbccndaaGreatDoor
