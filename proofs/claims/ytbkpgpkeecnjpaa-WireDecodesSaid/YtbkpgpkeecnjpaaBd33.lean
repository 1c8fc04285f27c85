/- Parts of the proof, one behind the other: Wd, We. -/
import Derived.Test.YtbkpgpkeecnjpaaBd32
section
namespace Go.Proofs.Ytbkpgpkeecnjpaa
open Sym Go.RowKit
noncomputable section
set_option maxRecDepth 100000
set_option maxHeartbeats 4000000



namespace F
def bts (n : Int) : Nat → List Int
  | 0 => []
  | k + 1 => bts (n / 256) k ++ [n % 256]
def put (l : List Int) (n : Int) (k : Nat) : List Int := l ++ bts n k
end F


theorem pow8 : ∀ j : Fin 8, (2 : Int) ^ (min (8 * ((j.val : Nat) : Int)).toNat 64) = 256 ^ j.val := by decide
theorem bts_len (n : Int) : ∀ k : Nat, (F.bts n k).length = k := by
  intro k
  induction k generalizing n with
  | zero => rfl
  | succ k ih => rw [F.bts, List.length_append, ih]; rfl
theorem put_next (l : List Int) (n : Int) (K j : Nat) (h : j + 1 ≤ K) : F.put l (n / 256 ^ (j + 1)) (K - (j + 1)) ++ [n / 256 ^ j % 256] = F.put l (n / 256 ^ j) (K - j) := by
  obtain ⟨c, rfl⟩ : ∃ c, K = j + 1 + c := ⟨K - (j + 1), by omega⟩
  rw [show j + 1 + c - (j + 1) = c by omega, show j + 1 + c - j = c + 1 by omega]
  unfold F.put
  rw [F.bts, List.append_assoc, show n / 256 ^ j / 256 = n / 256 ^ (j + 1) by rw [Int.pow_succ, Int.ediv_ediv_of_nonneg (Int.pow_nonneg (by decide))]]


def cuts_putA : Cuts := [(2, [1, 7, 0], 1)]

theorem putA_t0 (l : List Int) (n k : Int) : symI C_frE cuts_putA Try.f43.results.toList ([.own 4 l 5] : Heap cod) 400 [.code (codeOf Try.f43)] ⟨argsS Try.f43 [.c (.own 0 (List.length l)), .c (.int .u64 n), .c (.int .i64 k)], ([.own 4 l 5] : Heap cod)⟩ =
.need (Sym.i64ok (k - 1)) (
.ret (.cut (cutAt Try.f43 2) ⟨tmG 15 [(0, .c (.own 0 (List.length l))), (0, .c (.int .u64 n)), (5, .c (.int .i64 (k - 1)))], [.own 4 l 5]⟩)) := by kernel_rfl


noncomputable def st_putA_2 (l : List Int) (n k : Int) (i : Int) (ts : List Int) (q : Nat) : St cod := ⟨tmG 15 [(0, .c (.own 0 q)), (0, .c (.int .u64 n)), (5, .c (.int .i64 i))], ([.own 4 ts 5] : Heap cod)⟩


theorem putA_t2 (l : List Int) (n k : Int) (i : Int) (ts : List Int) (q : Nat) : symI C_frE cuts_putA Try.f43.results.toList ([.own 4 l 5] : Heap cod) 400 (cutAt Try.f43 2) (st_putA_2 l n k i ts q) =
 cond (decide (0 ≤ i)) (
 .need (Sym.i64ok (8 * i)) (
 .need ((0 : Int) ≤ 8 * i) (
 .need (1 = 1) (
 .need (q + 1 ≤ 1000000) (
 .need (Sym.i64ok (i - 1)) (
 .ret (.cut (cutAt Try.f43 2) ⟨tmG 15 [(0, .c (.own 0 (q + 1))), (0, .c (.int .u64 n)), (5, .c (.int .i64 (i - 1)))], [.own 4 (ts ++ ([IntKind.wrap IntKind.u8 (Int.fdiv n (2 ^ min (Int.toNat (8 * i)) 64))])) 5]⟩))))))) (
 .ret (.fin (.c (.own 0 (q))) [.own 4 ts 5])) := by kernel_rfl



theorem putA_run (l : List Int) (n k : Int) (b0 : Base) (hb : b0.n = 1) (h0 : 0 ≤ k ∧ k ≤ 8) (h1 : l.length ≤ 100000) : Sym.Runs Try.prog b0 [.code (codeOf Try.f43)] ⟨argsS Try.f43 [.c (.own 0 (List.length l)), .c (.int .u64 n), .c (.int .i64 k)], ([.own 4 l 5] : Heap cod)⟩ (Sym.EndsI Try.prog Try.f43 ([.own 4 l 5] : Heap cod) (.c (.own 0 (List.length (F.put l n k.toNat)))) [.own 4 (F.put l n k.toNat) 5]) := by
  obtain ⟨K, rfl⟩ : ∃ K : Nat, k = K := ⟨k.toNat, by omega⟩
  have key : ∀ (j : Nat) (ts : List Int) (q : Nat), j ≤ K → ts = F.put l (n / 256 ^ j) (K - j) → q = ts.length →
      Sym.Runs Try.prog b0 (cutAt Try.f43 2) (st_putA_2 l n (K : Int) ((j : Int) - 1) ts q) (Sym.EndsI Try.prog Try.f43 ([.own 4 l 5] : Heap cod) (.c (.own 0 (List.length (F.put l n K)))) [.own 4 (F.put l n K) 5]) := by
    intro j
    induction j with
    | zero =>
      intro ts q hj ht hq
      refine Runs.goI (cfg := C_frE) L_frE_ok mixed cuts_putA 400 (H := ([.own 4 l 5] : Heap cod)) hb (putA_t2 l n (K : Int) _ ts q) ?_
      have e : ts = F.put l n K := by rw [ht]; simp
      subst hq
      rw [e]
      simp only [T.wp, T.wp_cond, Aft, Int.ofNat_eq_natCast, decide_eq_true_eq, and_true, true_and, Nat.zero_add, Bool.not_eq_true', decide_eq_false_iff_not]
      exact ite_no (by decide) trivial
    | succ j ih =>
      intro ts q hj ht hq
      refine Runs.goI (cfg := C_frE) L_frE_ok mixed cuts_putA 400 (H := ([.own 4 l 5] : Heap cod)) hb (putA_t2 l n (K : Int) _ ts q) ?_
      have hl : ts.length = l.length + (K - (j + 1)) := by rw [ht, F.put, List.length_append, bts_len]
      have p8 := pow8 ⟨j, by omega⟩
      have hi : ((j + 1 : Nat) : Int) - 1 = (j : Int) := by omega
      rw [hi]
      simp only at p8
      simp only [T.wp, T.wp_cond, Aft, Int.ofNat_eq_natCast, decide_eq_true_eq, and_true, true_and, Nat.zero_add, Bool.not_eq_true', decide_eq_false_iff_not]
      rw [p8, Int.fdiv_eq_ediv_of_nonneg _ (Int.pow_nonneg (by decide)), IntKind.wrap_u8']
      have nx := ih (ts ++ [n / 256 ^ j % 256]) (q + 1) (by omega) (by rw [ht, put_next l n K j hj]) (by rw [List.length_append, hq]; rfl)
      exact ite_yes (by omega) ⟨by unfold Sym.i64ok; omega, by omega, by omega, by unfold Sym.i64ok; omega, nx⟩
  refine Runs.goI (cfg := C_frE) L_frE_ok mixed cuts_putA 400 (H := ([.own 4 l 5] : Heap cod)) hb (putA_t0 l n (K : Int)) ?_
  simp only [T.wp, T.wp_cond, Aft, Int.ofNat_eq_natCast, decide_eq_true_eq, and_true, true_and, Nat.zero_add, Bool.not_eq_true', decide_eq_false_iff_not]
  refine ⟨by unfold Sym.i64ok; omega, ?_⟩
  exact key K l l.length (Nat.le_refl _) (by simp [F.put, F.bts]) rfl



noncomputable def s_putA : Summ cod := fun args H => match args, H with
  | [.c (.own 0 q), .c (.int .u64 n), .c (.int .i64 k)], [o0] => (match o0.asOwn 4 5 with | some l => .need ((.c (.own 0 q) : SV) = .c (.own 0 (List.length l))) (.need ((0 ≤ k ∧ k ≤ 8) ∧ (l.length ≤ 100000)) (.ret (.c (.own 0 (List.length (F.put l n k.toNat))), [.own 4 (F.put l n k.toNat) 5]))) | none => .fail)
  | _, _ => .fail


theorem putA_sound : SoundI Try.prog cod 43 s_putA := tree_soundI (cfg := C_frE) Try.func43 rfl rfl _ fun args H r H' hg b0 hb => by
  unfold s_putA at hg
  split at hg
  · skip
    split at hg
    · rename_i l hx0
      cases asOwn_spec hx0
      obtain ⟨tt, hg⟩ := hg
      have t0 := tt
      cases t0
      obtain ⟨hq, hg⟩ := hg
      obtain ⟨q0, q1⟩ := hq
      cases hg
      exact putA_run _ _ _ b0 hb (by assumption) (by assumption)
    · exact hg.elim
  · exact hg.elim

noncomputable def L_putA : Sums cod := (43, .i s_putA) :: L_frE
noncomputable def C_putA : Cfg cod := mkC L_putA

theorem L_putA_ok : Snd Try.prog cod L_putA := .consI putA_sound L_frE_ok



def cuts_putB : Cuts := []

theorem putB_t0 (l : List Int) (n : Int) : symI C_putA cuts_putB Try.f43.results.toList ([.inp 4 l] : Heap cod) 400 [.code (codeOf Try.f43)] ⟨argsS Try.f43 [.c (.slc 0 0 (List.length l) true), .c (.int .u64 n), .c (.int .i64 1)], ([.inp 4 l] : Heap cod)⟩ =
.need (Sym.i64ok (1 - 1)) (
.need (Sym.i64ok (8 * (1 - 1))) (
.need ((0 : Int) ≤ 8 * (1 - 1)) (
.need (1 = 1) (
.need (List.length (List.take (List.length l) (List.drop 0 l)) = List.length l) (
.need (((0 : Nat) < 1 ∧ List.length l + 1 ≤ 1000000)) (
.need (Sym.i64ok (1 - 1 - 1)) (
.ret (.fin (.c (.own 1 (List.length l + 1))) [.dead, .own 4 ((List.take (List.length l) (List.drop 0 l)) ++ ([IntKind.wrap IntKind.u8 (Int.fdiv n (2 ^ min (Int.toNat (8 * (1 - 1))) 64))])) 5])))))))) := by kernel_rfl



theorem putB_run (l : List Int) (n : Int) (b0 : Base) (hb : b0.n = 1) (h0 : l.length = 2) : Sym.Runs Try.prog b0 [.code (codeOf Try.f43)] ⟨argsS Try.f43 [.c (.slc 0 0 (List.length l) true), .c (.int .u64 n), .c (.int .i64 1)], ([.inp 4 l] : Heap cod)⟩ (Sym.EndsI Try.prog Try.f43 ([.inp 4 l] : Heap cod) (.c (.own 1 3)) [.dead, .own 4 (F.put l n 1) 5]) := by
  refine Runs.goI (cfg := C_putA) L_putA_ok mixed cuts_putB 400 (H := ([.inp 4 l] : Heap cod)) hb (putB_t0 l n) ?_
  simp only [T.wp, T.wp_cond, Aft, Int.ofNat_eq_natCast, decide_eq_true_eq, and_true, true_and, Nat.zero_add, Bool.not_eq_true', decide_eq_false_iff_not]
  have e1 : List.take l.length (List.drop 0 l) = l := by simp
  have e2 : n.fdiv (2 ^ min (8 * ((1 : Int) - 1)).toNat 64) = n := by
    show n.fdiv 1 = n
    rw [Int.fdiv_eq_ediv_of_nonneg _ (by decide), Int.ediv_one]
  have e3 : l.length = 2 := h0
  rw [e1, e2, IntKind.wrap_u8']
  refine ⟨by unfold Sym.i64ok; omega, by unfold Sym.i64ok; omega, by decide, rfl, ⟨by decide, by omega⟩, by unfold Sym.i64ok; omega, ?_, ?_⟩
  · rw [e3]
  · simp [F.put, F.bts]



noncomputable def s_putB : Summ cod := fun args H => match args, H with
  | [.c (.slc 0 0 q true), .c (.int .u64 n), .c (.int .i64 1)], [o0] => (match o0.asInp 4 with | some l => .need ((.c (.slc 0 0 q true) : SV) = .c (.slc 0 0 (List.length l) true)) (.need ((l.length = 2)) (.ret (.c (.own 1 3), [.dead, .own 4 (F.put l n 1) 5]))) | none => .fail)
  | _, _ => .fail


theorem putB_sound : SoundI Try.prog cod 43 s_putB := tree_soundI (cfg := C_putA) Try.func43 rfl rfl _ fun args H r H' hg b0 hb => by
  unfold s_putB at hg
  split at hg
  · skip
    split at hg
    · rename_i l hx0
      cases asInp_spec hx0
      obtain ⟨tt, hg⟩ := hg
      have t0 := tt
      cases t0
      obtain ⟨hq, hg⟩ := hg
      have q0 := hq
      cases hg
      exact putB_run _ _ b0 hb (by assumption)
    · exact hg.elim
  · exact hg.elim

noncomputable def L_putB : Sums cod := (43, .i s_putB) :: L_putA
noncomputable def C_putB : Cfg cod := mkC L_putB

theorem L_putB_ok : Snd Try.prog cod L_putB := .consI putB_sound L_putA_ok



noncomputable def s_put : Summ cod := s_by ownFirst s_putA s_putB


theorem put_sound : SoundI Try.prog cod 43 s_put := .by_ _ putA_sound putB_sound

noncomputable def L_put : Sums cod := (43, .i s_put) :: L_putB
noncomputable def C_put : Cfg cod := mkC L_put

theorem L_put_ok : Snd Try.prog cod L_put := .consI put_sound L_putB_ok


end
end Go.Proofs.Ytbkpgpkeecnjpaa
end
section
namespace Go.Proofs.Ytbkpgpkeecnjpaa
open Sym Go.RowKit
noncomputable section
set_option maxRecDepth 100000
set_option maxHeartbeats 4000000



namespace F
def byt (n : Int) : Nat → List UInt8
  | 0 => []
  | k + 1 => byt (n / 256) k ++ [UInt8.ofNat (n % 256).toNat]
end F
noncomputable def s_byD (d : Nat) : Summ cod := fun args H => match args, H with
  | [.c (.int .u64 n), .c (.int .i64 k)], [] => .need (0 ≤ n ∧ n < 18446744073709551616 ∧ 0 ≤ k ∧ k < (d : Int) ∧ d ≤ 9) (.ret (.c (.str (F.byt n k.toNat)), []))
  | _, _ => .fail
noncomputable def C_byD (d : Nat) : Cfg cod := mkC ((22, .p (s_byD d)) :: L_put)

theorem byD_t0 (d : Nat) (n k : Int) : symF (C_byD d) [] Try.f22.results.toList 0 400 [.code (codeOf Try.f22)] ⟨argsS Try.f22 [.c (.int .u64 n), .c (.int .i64 k)], ([] : Heap cod)⟩ =
 cond (decide (k = 0)) (
 .ret (.fin (.c (.str [])) [])) (
 .need ((256 : Int) ≠ 0) (
 .need (Sym.i64ok (k - 1)) (
 .need (((0 : Int) ≤ IntKind.wrap IntKind.u64 (Int.tdiv n 256) ∧ (IntKind.wrap IntKind.u64 (Int.tdiv n 256) < 18446744073709551616 ∧ ((0 : Int) ≤ k - 1 ∧ (k - 1 < Int.ofNat d ∧ d ≤ 9))))) (
 .need ((256 : Int) ≠ 0) (
 .need (1 = 1) (
 .need (∀ (a : (cod ((fun x => x.snd) (5, 4))).α), ∃ n, (cod 4).enc a = [Cell.int IntKind.u8 n]) (
 .need (List.length (F.byt (IntKind.wrap IntKind.u64 (Int.tdiv n 256)) (Int.toNat (k - 1))) + 1 ≤ 9223372036854775807) (
 .ret (.fin (.c (.str (F.byt (IntKind.wrap IntKind.u64 (Int.tdiv n 256)) (Int.toNat (k - 1)) ++   [UInt8.ofNat (Int.toNat (IntKind.wrap IntKind.u8 (Int.tmod n 256)))]))) []))))))))) := by kernel_rfl



theorem byt_len (n : Int) : ∀ k : Nat, (F.byt n k).length = k := by
  intro k
  induction k generalizing n with
  | zero => rfl
  | succ k ih => rw [F.byt, List.length_append, ih]; rfl
theorem byD_sound : ∀ d : Nat, Sound Try.prog cod 22 (s_byD d)
  | 0 => sound_runs (cfg := C_put) L_put_ok mixed Try.func22 rfl rfl _ fun args H r news hg b0 hb => by
    unfold s_byD at hg
    split at hg
    · simp only [T.gives, T.wp, Prod.mk.injEq] at hg
      obtain ⟨⟨h0, hn, h1, h2, h3⟩, rfl, rfl⟩ := hg
      omega
    · exact hg.elim
  | d + 1 => sound_runs (cfg := C_byD d) (.cons (byD_sound d) L_put_ok : Snd Try.prog cod ((22, .p (s_byD d)) :: L_put)) mixed Try.func22 rfl rfl _ fun args H r news hg b0 hb => by
    unfold s_byD at hg
    split at hg
    · rename_i n k
      simp only [T.gives, T.wp, Prod.mk.injEq] at hg
      obtain ⟨⟨h0, hn, h1, h2, h3⟩, rfl, rfl⟩ := hg
      refine Runs.go (cfg := C_byD d) (.cons (byD_sound d) L_put_ok : Snd Try.prog cod ((22, .p (s_byD d)) :: L_put)) mixed [] 400 hb (byD_t0 d n k) ?_
      have e1 : IntKind.u64.wrap (n.tdiv 256) = n / 256 := by
        rw [Int.tdiv_eq_ediv_of_nonneg h0, IntKind.wrap_u64]
        omega
      have e2 : IntKind.u8.wrap (n.tmod 256) = n % 256 := by
        rw [Int.tmod_eq_emod_of_nonneg h0, IntKind.wrap_u8']
        omega
      simp only [T.wp, T.wp_cond, Aft, Int.ofNat_eq_natCast, decide_eq_true_eq, and_true, true_and, Nat.zero_add, Bool.not_eq_true', decide_eq_false_iff_not, e1, e2, byt_len]
      by_cases hk : k = 0
      · subst hk
        exact ite_yes rfl rfl
      · obtain ⟨K, rfl⟩ : ∃ K : Nat, k = ((K + 1 : Nat) : Int) := ⟨(k - 1).toNat, by omega⟩
        have e3 : (((K + 1 : Nat) : Int) - 1).toNat = K := by omega
        rw [e3]
        exact ite_no hk ⟨by decide, by unfold Sym.i64ok; omega, ⟨by omega, by omega, by omega, by omega, by omega⟩, by decide, fun a => ⟨a, rfl⟩, by omega, rfl⟩
    · exact hg.elim


noncomputable def s_byts : Summ cod := s_byD 9


theorem byts_sound : Sound Try.prog cod 22 s_byts := byD_sound 9

noncomputable def L_byts : Sums cod := (22, .p s_byts) :: L_put
noncomputable def C_byts : Cfg cod := mkC L_byts

theorem L_byts_ok : Snd Try.prog cod L_byts := .cons byts_sound L_put_ok


end
end Go.Proofs.Ytbkpgpkeecnjpaa
end
