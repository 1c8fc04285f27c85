/- Part of a claim: lemmas on the way to its theorem; each states its own conditions. -/
import Derived.Test.YthljcjighomgkaaFh
namespace Go.Proofs.Ythljcjighomgkaa
open Sym Go.RowKit
noncomputable section
set_option maxRecDepth 100000
set_option maxHeartbeats 4000000

namespace F
/-- How many of the last m are true. -/
def cl (l : List Bool) (m : Int) : Int := ((l.drop (l.length - m.toNat)).count true : Nat)
open Classical in
noncomputable def conf (l : List Bool) (need of : Int) : Int := if need ≤ cl l of then 1 else if (l.length : Int) < of then 0 else if (∃ j, 1 ≤ j ∧ j < of ∧ 0 < cl l (of - j) ∧ need ≤ cl l (of - j) + j) then 0 else 2
/-- The first scan, and what becomes of the track. -/
noncomputable def runGo (need of : Int) (done : List Bool) : List Bool → Int × Int
  | [] => (0, 0)
  | h :: r => if conf (done ++ [h]) need of = 0 then runGo need of (done ++ [h]) r else (done.length + 1, conf (done ++ [h]) need of)
noncomputable def run (l : List Bool) (need of : Int) : Int × Int := if rule need of = 0 then runGo need of [] l else (0, 0)
noncomputable def runE (l : List Bool) (need of : Int) : Int := if l.length ≤ 256 then rule need of else 2
end F


theorem popbit (k b r : Nat) (hb : b < 2) : F.pop (k + 1) (b + 2 * r) = b + F.pop k r := by
  have h1 : (b + 2 * r) % 2 = b := by omega
  have h2 : (b + 2 * r) / 2 = r := by omega
  simp only [F.pop, h1, h2]
theorem pow16 {m : Nat} (h : m ≤ 15) : 2 ^ m ∣ 32768 := ⟨2 ^ (15 - m), by rw [← Nat.pow_add]; rw [show m + (15 - m) = 15 by omega]⟩
theorem pop_short : ∀ (k n : Nat), n < 2 ^ k → F.pop (k + 1) n = F.pop k n
  | 0, n, h => by
    have : n = 0 := by simp at h; exact h
    subst this
    rfl
  | k + 1, n, h => by
    have := pop_short k (n / 2) (by rw [Nat.pow_succ] at h; omega)
    simp only [F.pop] at this ⊢
    omega
theorem cb_zero (h : Int) : F.cb h 0 = 0 := by
  unfold F.cb
  rw [show ((0 : Int).toNat) = 0 from rfl, Nat.pow_zero, Nat.mod_one]
  decide
theorem cl_zero (l : List Bool) : F.cl l 0 = 0 := by
  unfold F.cl
  simp
theorem cb_next {h : Int} (hh : 0 ≤ h) (hit : Bool) {m : Int} (hm : 1 ≤ m ∧ m ≤ 16) : F.cb (F.nh h hit) m = F.cb h (m - 1) + (if hit then 1 else 0) := by
  obtain ⟨a, rfl⟩ := Int.eq_ofNat_of_zero_le hh
  obtain ⟨k, rfl⟩ : ∃ k : Nat, m = (k : Int) + 1 := ⟨(m - 1).toNat, by omega⟩
  have hk : k ≤ 15 := by omega
  unfold F.cb F.nh
  have e1 : ((k : Int) + 1).toNat = k + 1 := by omega
  have e2 : ((k : Int) + 1 - 1).toNat = k := by omega
  rw [e1, e2, Int.toNat_natCast]
  generalize hb : (if hit = true then (1 : Int) else 0) = b
  have hb' : b = 0 ∨ b = 1 := by cases hit <;> simp at hb <;> omega
  have e3 : (2 * (a : Int) % 65536 + b).toNat = 2 * (a % 32768) + b.toNat := by omega
  rw [e3, Nat.pow_succ, Nat.mul_comm (2 ^ k) 2, Nat.mod_mul]
  have e4 : (2 * (a % 32768) + b.toNat) % 2 = b.toNat := by omega
  have e5 : (2 * (a % 32768) + b.toNat) / 2 = a % 32768 := by omega
  rw [e4, e5, Nat.mod_mod_of_dvd _ (pow16 hk)]
  have e6 : a % 2 ^ k < 2 ^ 15 := Nat.lt_of_lt_of_le (Nat.mod_lt _ (Nat.two_pow_pos k)) (Nat.pow_le_pow_right (by omega) hk)
  have e7 := pop_short 15 _ e6
  rw [show (b.toNat + 2 * (a % 2 ^ k)) = b.toNat + 2 * (a % 2 ^ k) from rfl, popbit 15 _ _ (by omega), e7]
  omega
theorem cl_snoc (l : List Bool) (hit : Bool) {m : Int} (hm : 1 ≤ m) : F.cl (l ++ [hit]) m = F.cl l (m - 1) + (if hit then 1 else 0) := by
  obtain ⟨k, rfl⟩ : ∃ k : Nat, m = (k : Int) + 1 := ⟨(m - 1).toNat, by omega⟩
  unfold F.cl
  have e1 : ((k : Int) + 1).toNat = k + 1 := by omega
  have e2 : ((k : Int) + 1 - 1).toNat = k := by omega
  rw [e1, e2, List.length_append, List.length_singleton, show l.length + 1 - (k + 1) = l.length - k by omega, List.drop_append_of_le_length (by omega), List.count_append]
  cases hit <;> simp
theorem cl_trues (l : List Bool) (k : Nat) {m : Int} (hm : (k : Int) ≤ m) : F.cl (l ++ List.replicate k true) m = F.cl l (m - k) + k := by
  unfold F.cl
  rw [List.length_append, List.length_replicate, List.drop_append_of_le_length (by omega), List.count_append, List.count_replicate_self, show l.length + k - m.toNat = l.length - (m - k).toNat by omega]
  omega
theorem sub_getD {α : Type} (l : List α) (a n i : Nat) (d : α) (hi : i < n) : ((l.drop a).take n).getD i d = l.getD (a + i) d := by
  simp only [List.getD, List.getElem?_take, if_pos hi, List.getElem?_drop]
theorem sub_len {α : Type} (l : List α) (a n : Nat) (h : a + n ≤ l.length) : ((l.drop a).take n).length = n := by
  rw [List.length_take, List.length_drop]
  omega
theorem count_le (l : List Bool) : l.count true ≤ l.length := List.count_le_length
/-- What the state of a run knows. -/
def Knows (done : List Bool) (h s : Int) : Prop := (0 ≤ h ∧ h < 65536) ∧ s = min 16 (done.length : Int) ∧ ∀ m, 0 ≤ m ∧ m ≤ 16 → F.cb h m = F.cl done m
theorem knows_nil : Knows [] 0 0 := by
  refine ⟨by omega, rfl, fun m hm => ?_⟩
  unfold F.cb F.cl
  simp [F.pop]
theorem knows_next {done : List Bool} {h s : Int} (k : Knows done h s) (hit : Bool) : Knows (done ++ [hit]) (F.nh h hit) (min 16 (s + 1)) := by
  obtain ⟨h1, h2, h3⟩ := k
  refine ⟨?_, ?_, fun m hm => ?_⟩
  · unfold F.nh
    split <;> omega
  · rw [h2, List.length_append, List.length_singleton]
    omega
  · by_cases h0 : m = 0
    · subst h0
      rw [cb_zero, cl_zero]
    · rw [cb_next h1.1 hit (by omega), cl_snoc _ _ (by omega), h3 _ (by omega)]
theorem wh_conf {done : List Bool} {h s : Int} (k : Knows done h s) (need of : Int) (ho : 1 ≤ of ∧ of ≤ 16) : F.wh h s need of = F.conf done need of := by
  obtain ⟨h1, h2, h3⟩ := k
  unfold F.wh F.conf
  rw [h3 of (by omega)]
  by_cases p1 : need ≤ F.cl done of
  · rw [if_pos p1, if_pos p1]
  rw [if_neg p1, if_neg p1]
  by_cases p2 : s < of
  · rw [if_pos p2, if_pos (show (done.length : Int) < of by omega)]
  rw [if_neg p2, if_neg (show ¬ (done.length : Int) < of by omega)]
  have : (∃ j, 1 ≤ j ∧ j < of ∧ 0 < F.cb h (of - j) ∧ need ≤ F.cb h (of - j) + j) ↔ (∃ j, 1 ≤ j ∧ j < of ∧ 0 < F.cl done (of - j) ∧ need ≤ F.cl done (of - j) + j) := by
    constructor
    · rintro ⟨j, g1, g2, g3⟩
      rw [h3 (of - j) (by omega)] at g3
      exact ⟨j, g1, g2, g3⟩
    · rintro ⟨j, g1, g2, g3⟩
      rw [← h3 (of - j) (by omega)] at g3
      exact ⟨j, g1, g2, g3⟩
  by_cases q : ∃ j, 1 ≤ j ∧ j < of ∧ 0 < F.cb h (of - j) ∧ need ≤ F.cb h (of - j) + j
  · rw [if_pos q, if_pos (this.1 q)]
  · rw [if_neg q, if_neg (fun h => q (this.2 h))]
theorem conf_nn (l : List Bool) (need of : Int) : F.conf l need of = 0 ∨ F.conf l need of = 1 ∨ F.conf l need of = 2 := by
  unfold F.conf
  split
  · simp
  · split
    · simp
    · split <;> simp
theorem rule_zero {need of : Int} (h : F.rule need of = 0) : 1 ≤ of ∧ of ≤ 16 ∧ 1 ≤ need ∧ need ≤ of := by
  unfold F.rule at h
  split at h
  · assumption
  · cases h


def cuts_brun : Cuts := [(8, [10, 2, 1, 23, 24, 25], 2)]

theorem brun_t0 (l : List Bool) (l_t : Bool) (l_i l_n : Nat) (need : Int) (of : Int) : symF C_step cuts_brun Try.f35.results.toList 1 400 [.code (codeOf Try.f35)] ⟨argsS Try.f35 [.c (.slc 0 l_i l_n l_t), .c (.int .i64 need), .c (.int .i64 of)], ([.inp 3 l] : Heap cod)⟩ =
 cond (decide (256 < Int.ofNat l_n)) (
 .ret (.fin (.tup [.c (.int .i64 0), .c (.int .i64 0), .c (.int .i64 2)]) [])) (
 cond (!decide (F.rule need of = 0)) (
  .ret (.fin (.tup [.c (.int .i64 0), .c (.int .i64 0), .c (.int .i64 (F.rule need of))]) [])) (
  .ret (.cut (cutAt Try.f35 8) ⟨tmG 18 [(1, .c (.int .i64 need)), (0, .c (.int .i64 of)), (7, .c (.ptr 1 0 0)), (12, .c (.slc 0 (l_i) (l_n) l_t)), (0, .c (.int .i64 (Int.ofNat l_n))), (0, .c (.int .i64 0))], [.inp 3 l, .blk [.int .i64 0, .int .i64 0] 113]⟩))) := by kernel_rfl


noncomputable def st_brun_8 (l : List Bool) (l_t : Bool) (l_i l_n : Nat) (need : Int) (of : Int) (i h s : Int) : St cod := ⟨tmG 18 [(1, .c (.int .i64 need)), (0, .c (.int .i64 of)), (7, .c (.ptr 1 0 0)), (12, .c (.slc 0 (l_i) (l_n) l_t)), (0, .c (.int .i64 (Int.ofNat l_n))), (0, .c (.int .i64 i))], ([.inp 3 l, .blk [.int .i64 h, .int .i64 s] 113] : Heap cod)⟩


theorem brun_t8 (l : List Bool) (l_t : Bool) (l_i l_n : Nat) (need : Int) (of : Int) (i h s : Int) : symF C_step cuts_brun Try.f35.results.toList 1 400 (cutAt Try.f35 8) (st_brun_8 l l_t l_i l_n need of i h s) =
 cond (decide (i < Int.ofNat l_n)) (
 .need ((0 ≤ i ∧ i < Int.ofNat l_n)) (
 .need (l_i + Int.toNat i < List.length l) (
 .need ((0 ≤ h ∧ (h < 65536 ∧ (1 ≤ of ∧ (of ≤ 16 ∧ (1 ≤ need ∧ (need ≤ of ∧ (0 ≤ s ∧ s ≤ 16)))))))) (
 cond (decide (0 < F.wh (F.nh h (List.getD l (l_i + Int.toNat i) (cod 3).d)) (min 16 (s + 1)) need of)) (
  .need (i64ok (i + 1)) (
  .ret (.fin (.tup [.c (.int .i64 (i + 1)), .c (.int .i64 (F.wh (F.nh h (List.getD l (l_i + Int.toNat i) (cod 3).d)) (min 16 (s + 1)) need of)), .c (.int .i64 0)]) []))) (
  .need (i64ok (i + 1)) (
  .ret (.cut (cutAt Try.f35 8) ⟨tmG 18 [(1, .c (.int .i64 need)), (0, .c (.int .i64 of)), (7, .c (.ptr 1 0 0)), (12, .c (.slc 0 (l_i) (l_n) l_t)), (0, .c (.int .i64 (Int.ofNat l_n))), (0, .c (.int .i64 (i + 1)))], [.inp 3 l, .blk [.int .i64 (F.nh h (List.getD l (l_i + Int.toNat i) (cod 3).d)), .int .i64 (min 16 (s + 1))] 113]⟩))))))) (
 .ret (.fin (.tup [.c (.int .i64 0), .c (.int .i64 0), .c (.int .i64 0)]) [])) := by kernel_rfl



theorem brun_loop (l : List Bool) (l_t : Bool) (a k : Nat) (ha : a + k ≤ l.length) (L : List Bool) (hL : L = (l.drop a).take k) (need of : Int) (hr : 1 ≤ of ∧ of ≤ 16 ∧ 1 ≤ need ∧ need ≤ of) (hl : k ≤ 256) (b0 : Base) (hb : b0.n = 1) (u : Int × Int) : ∀ (m : Nat) (i h s : Int), 0 ≤ i → i + m = k → Knows (L.take i.toNat) h s → u = F.runGo need of (L.take i.toNat) (L.drop i.toNat) →
    Sym.Runs Try.prog b0 (cutAt Try.f35 8) (st_brun_8 l l_t a k need of i h s) (Sym.Ends Try.prog Try.f35 1 (.tup [.c (.int .i64 u.1), .c (.int .i64 u.2), .c (.int .i64 0)]) []) := by
  have hd : (cod 3).d = false := rfl
  have hlen : L.length = k := by rw [hL]; exact sub_len l a k ha
  intro m
  induction m with
  | zero =>
    intro i h s h0 hm hk hu
    refine Runs.go (cfg := C_step) L_step_ok mixed cuts_brun 400 hb (brun_t8 l l_t a k need of i h s) ?_
    have h1 : ¬ i < (k : Int) := by omega
    rw [drop_end L (by omega)] at hu
    simp only [T.wp, T.wp_cond, Aft, Int.ofNat_eq_natCast, decide_eq_true_eq, and_true, true_and, Nat.zero_add, Bool.not_eq_true', decide_eq_false_iff_not, h1, if_false, hu, F.runGo]
  | succ m ih =>
    intro i h s h0 hm hk hu
    refine Runs.go (cfg := C_step) L_step_ok mixed cuts_brun 400 hb (brun_t8 l l_t a k need of i h s) ?_
    have h1 : i < (k : Int) := by omega
    have e0 := sub_getD l a k i.toNat false (by omega)
    rw [← hL] at e0
    rw [drop_at L false h0 (by omega)] at hu
    simp only [F.runGo] at hu
    have e1 := take_at L false h0 (by omega)
    have kn := knows_next hk (L.getD i.toNat false)
    have nx := ih (i + 1) _ _ (by omega) (by omega) (by rw [e1]; exact kn)
    rw [← e1] at hu kn
    have e2 := wh_conf kn need of ⟨hr.1, hr.2.1⟩
    obtain ⟨q1, q2, _⟩ := hk
    rw [e0] at e2 nx
    simp only [T.wp, T.wp_cond, Aft, Int.ofNat_eq_natCast, decide_eq_true_eq, and_true, true_and, Nat.zero_add, Bool.not_eq_true', decide_eq_false_iff_not, h1, if_true, hd]
    refine ⟨h0, by omega, ⟨q1.1, q1.2, hr.1, hr.2.1, hr.2.2.1, hr.2.2.2, by omega, by omega⟩, ?_⟩
    rw [e2]
    have e3 := conf_nn (L.take (i + 1).toNat) need of
    by_cases p : F.conf (L.take (i + 1).toNat) need of = 0
    · rw [if_pos p] at hu
      simp only [p, Int.lt_irrefl, if_false]
      exact ⟨by unfold i64ok; omega, nx hu⟩
    · rw [if_neg p] at hu
      have p' : 0 < F.conf (L.take (i + 1).toNat) need of := by omega
      simp only [p', if_true, hu, List.length_take]
      rw [show ((min i.toNat L.length : Nat) : Int) = i by omega]
      exact ⟨by unfold i64ok; omega, rfl⟩
theorem brun_run (l : List Bool) (l_t : Bool) (l_i l_n : Nat) (need : Int) (of : Int) (b0 : Base) (hb : b0.n = 1) (h0 : l_i + l_n ≤ List.length l) (h1 : l_n ≤ 256) : Sym.Runs Try.prog b0 [.code (codeOf Try.f35)] ⟨argsS Try.f35 [.c (.slc 0 l_i l_n l_t), .c (.int .i64 need), .c (.int .i64 of)], ([.inp 3 l] : Heap cod)⟩ (Sym.Ends Try.prog Try.f35 1 (.tup [.c (.int .i64 (F.run ((l.drop l_i).take l_n) need of).1), .c (.int .i64 (F.run ((l.drop l_i).take l_n) need of).2), .c (.int .i64 (F.rule need of))]) []) := by
  refine Runs.go (cfg := C_step) L_step_ok mixed cuts_brun 400 hb (brun_t0 l l_t l_i l_n need of) ?_
  have h2 : ¬ (256 : Int) < l_n := by omega
  simp only [T.wp, T.wp_cond, Aft, Int.ofNat_eq_natCast, decide_eq_true_eq, and_true, true_and, Nat.zero_add, Bool.not_eq_true', decide_eq_false_iff_not, h2, if_false]
  unfold F.run
  by_cases h : F.rule need of = 0
  · simp only [h, if_true, not_true_eq_false, if_false]
    exact brun_loop l l_t l_i l_n h0 _ rfl need of (rule_zero h) h1 b0 hb _ l_n 0 0 0 (by omega) (by omega) knows_nil rfl
  · simp only [h, if_false, not_false_eq_true, if_true]



noncomputable def s_brun : Summ cod := fun args H => match args, H with
  | [.c (.slc 0 l_i l_n l_t), .c (.int .i64 need), .c (.int .i64 of)], [o0] => (match o0.asInp 3 with | some l => .need ((l_i + l_n ≤ List.length l) ∧ (l_n ≤ 256)) (.ret (.tup [.c (.int .i64 (F.run ((l.drop l_i).take l_n) need of).1), .c (.int .i64 (F.run ((l.drop l_i).take l_n) need of).2), .c (.int .i64 (F.rule need of))], [])) | none => .fail)
  | _, _ => .fail


theorem brun_sound : Sound Try.prog cod 35 s_brun := sound_runs (cfg := C_step) L_step_ok mixed Try.func35 rfl rfl _ fun args H r news hg b0 hb => by
  unfold s_brun at hg
  split at hg
  · skip
    split at hg
    · rename_i l hx0
      cases asInp_spec hx0
      simp only [T.gives, T.wp, Prod.mk.injEq] at hg
      obtain ⟨⟨q0, q1⟩, rfl, rfl⟩ := hg
      exact brun_run _ _ _ _ _ _ b0 hb (by assumption) (by assumption)
    · exact hg.elim
  · exact hg.elim

noncomputable def L_brun : Sums cod := (35, s_brun) :: L_step
noncomputable def C_brun : Cfg cod := mkC L_brun

theorem L_brun_ok : Snd Try.prog cod L_brun := .cons brun_sound L_step_ok



def cuts_cnt : Cuts := [(3, [1, 0, 7, 8, 9, 4], 2)]

theorem cnt_t0 (l : List Bool) (l_t : Bool) (l_i l_n : Nat) (of : Int) : symF C_brun cuts_cnt Try.f68.results.toList 2 400 [.code (codeOf Try.f68)] ⟨argsS Try.f68 [.c (.slc 0 l_i l_n l_t), .c (.ptr 1 0 0)], ([.inp 3 l, .rblk [.int .i64 of]] : Heap cod)⟩ =
.ret (.cut (cutAt Try.f68 3) ⟨tmG 17 [(0, .c (.slc 0 (l_i) (l_n) l_t)), (0, .c (.ptr 1 0 0)), (2, .c (.int .i64 0)), (2, .c (.slc 0 (l_i) (l_n) l_t)), (0, .c (.int .i64 (Int.ofNat l_n))), (0, .c (.int .i64 0))], [.inp 3 l, .rblk [.int .i64 of]]⟩) := by kernel_rfl


noncomputable def st_cnt_3 (l : List Bool) (l_t : Bool) (l_i l_n : Nat) (of : Int) (i n : Int) : St cod := ⟨tmG 17 [(0, .c (.slc 0 (l_i) (l_n) l_t)), (0, .c (.ptr 1 0 0)), (2, .c (.int .i64 n)), (2, .c (.slc 0 (l_i) (l_n) l_t)), (0, .c (.int .i64 (Int.ofNat l_n))), (0, .c (.int .i64 i))], [.inp 3 l, .rblk [.int .i64 of]]⟩


theorem cnt_t3 (l : List Bool) (l_t : Bool) (l_i l_n : Nat) (of : Int) (i n : Int) : symF C_brun cuts_cnt Try.f68.results.toList 2 400 (cutAt Try.f68 3) (st_cnt_3 l l_t l_i l_n of i n) =
 cond (decide (i < Int.ofNat l_n)) (
 .need ((0 ≤ i ∧ i < Int.ofNat l_n)) (
 .need (l_i + Int.toNat i < List.length l) (
 cond (List.getD l (l_i + Int.toNat i) (cod 3).d) (
  .need (i64ok (Int.ofNat l_n - of)) (
  cond (decide (Int.ofNat l_n - of ≤ i)) (
   .need (i64ok (n + 1)) (
   .need (i64ok (i + 1)) (
   .ret (.cut (cutAt Try.f68 3) ⟨tmG 17 [(0, .c (.slc 0 (l_i) (l_n) l_t)), (0, .c (.ptr 1 0 0)), (2, .c (.int .i64 (n + 1))), (2, .c (.slc 0 (l_i) (l_n) l_t)), (0, .c (.int .i64 (Int.ofNat l_n))), (0, .c (.int .i64 (i + 1)))], [.inp 3 l, .rblk [.int .i64 of]]⟩)))) (
   .need (i64ok (i + 1)) (
   .ret (.cut (cutAt Try.f68 3) ⟨tmG 17 [(0, .c (.slc 0 (l_i) (l_n) l_t)), (0, .c (.ptr 1 0 0)), (2, .c (.int .i64 n)), (2, .c (.slc 0 (l_i) (l_n) l_t)), (0, .c (.int .i64 (Int.ofNat l_n))), (0, .c (.int .i64 (i + 1)))], [.inp 3 l, .rblk [.int .i64 of]]⟩))))) (
  .need (i64ok (i + 1)) (
  .ret (.cut (cutAt Try.f68 3) ⟨tmG 17 [(0, .c (.slc 0 (l_i) (l_n) l_t)), (0, .c (.ptr 1 0 0)), (2, .c (.int .i64 n)), (2, .c (.slc 0 (l_i) (l_n) l_t)), (0, .c (.int .i64 (Int.ofNat l_n))), (0, .c (.int .i64 (i + 1)))], [.inp 3 l, .rblk [.int .i64 of]]⟩)))))) (
 .ret (.fin (.c (.int .i64 n)) [])) := by kernel_rfl



theorem cnt_loop (l : List Bool) (l_t : Bool) (a k : Nat) (hl : a + k ≤ l.length) (of : Int) (hr : 1 ≤ of ∧ of ≤ 16) (hk : k ≤ 40) (b0 : Base) (hb : b0.n = 2) (u : Int) : ∀ (m : Nat) (i n : Int), 0 ≤ i → i + m = k → 0 ≤ n ∧ n ≤ i → u = n + ((((l.drop a).take k).drop (max i.toNat (k - of.toNat))).count true : Nat) →
    Sym.Runs Try.prog b0 (cutAt Try.f68 3) (st_cnt_3 l l_t a k of i n) (Sym.Ends Try.prog Try.f68 2 (.c (.int .i64 u)) []) := by
  have hd : (cod 3).d = false := rfl
  have hlen := sub_len l a k hl
  intro m
  induction m with
  | zero =>
    intro i n h0 hm hn hu
    refine Runs.go (cfg := C_brun) L_brun_ok mixed cuts_cnt 400 hb (cnt_t3 l l_t a k of i n) ?_
    have h1 : ¬ i < (k : Int) := by omega
    rw [List.drop_of_length_le (by rw [hlen]; omega)] at hu
    simp only [List.count_nil] at hu
    simp only [T.wp, T.wp_cond, Aft, Int.ofNat_eq_natCast, decide_eq_true_eq, and_true, true_and, Nat.zero_add, Bool.not_eq_true', decide_eq_false_iff_not, h1, if_false]
    congr 2
    omega
  | succ m ih =>
    intro i n h0 hm hn hu
    refine Runs.go (cfg := C_brun) L_brun_ok mixed cuts_cnt 400 hb (cnt_t3 l l_t a k of i n) ?_
    have h1 : i < (k : Int) := by omega
    have k1 : i.toNat < k := by omega
    have e0 := sub_getD l a k i.toNat false k1
    have key : ((((l.drop a).take k).drop (max i.toNat (k - of.toNat))).count true : Nat) = (if (k : Int) - of ≤ i ∧ l.getD (a + i.toNat) false = true then 1 else 0) + ((((l.drop a).take k).drop (max (i + 1).toNat (k - of.toNat))).count true : Nat) := by
      by_cases p : (k : Int) - of ≤ i
      · have e1 : max i.toNat (k - of.toNat) = i.toNat := by omega
        have e2 : max (i + 1).toNat (k - of.toNat) = (i + 1).toNat := by omega
        rw [e1, e2, drop_at _ false h0 (by rw [hlen]; omega), List.count_cons, e0]
        cases l.getD (a + i.toNat) false <;> simp [p] <;> omega
      · have e2 : max (i + 1).toNat (k - of.toNat) = max i.toNat (k - of.toNat) := by omega
        rw [e2, if_neg (fun h => p h.1)]
        omega
    rw [key] at hu
    simp only [T.wp, T.wp_cond, Aft, Int.ofNat_eq_natCast, decide_eq_true_eq, and_true, true_and, Nat.zero_add, Bool.not_eq_true', decide_eq_false_iff_not, h1, if_true, hd]
    refine ⟨h0, by omega, ?_⟩
    cases g : l.getD (a + i.toNat) false
    · simp only [g, Bool.false_eq_true, and_false, if_false] at hu ⊢
      exact ⟨by unfold i64ok; omega, ih (i + 1) n (by omega) (by omega) (by omega) (by omega)⟩
    · simp only [g, and_true, if_true] at hu ⊢
      refine ⟨by unfold i64ok; omega, ?_⟩
      by_cases p : (k : Int) - of ≤ i
      · simp only [p, if_true] at hu ⊢
        exact ⟨by unfold i64ok; omega, by unfold i64ok; omega, ih (i + 1) (n + 1) (by omega) (by omega) (by omega) (by omega)⟩
      · simp only [p, if_false] at hu ⊢
        exact ⟨by unfold i64ok; omega, ih (i + 1) n (by omega) (by omega) (by omega) (by omega)⟩
theorem cnt_run (l : List Bool) (l_t : Bool) (l_i l_n : Nat) (of : Int) (b0 : Base) (hb : b0.n = 2) (h0 : l_i + l_n ≤ List.length l) (h1 : 1 ≤ of ∧ of ≤ 16 ∧ l_n ≤ 40) : Sym.Runs Try.prog b0 [.code (codeOf Try.f68)] ⟨argsS Try.f68 [.c (.slc 0 l_i l_n l_t), .c (.ptr 1 0 0)], ([.inp 3 l, .rblk [.int .i64 of]] : Heap cod)⟩ (Sym.Ends Try.prog Try.f68 2 (.c (.int .i64 (F.cl ((l.drop l_i).take l_n) of))) []) := by
  refine Runs.go (cfg := C_brun) L_brun_ok mixed cuts_cnt 400 hb (cnt_t0 l l_t l_i l_n of) ?_
  simp only [T.wp, T.wp_cond, Aft, Int.ofNat_eq_natCast, decide_eq_true_eq, and_true, true_and, Nat.zero_add, Bool.not_eq_true', decide_eq_false_iff_not]
  refine cnt_loop l l_t l_i l_n h0 of ⟨h1.1, h1.2.1⟩ h1.2.2 b0 hb _ l_n 0 0 (by omega) (by omega) (by omega) ?_
  unfold F.cl
  rw [sub_len l l_i l_n h0]
  simp



noncomputable def s_cnt : Summ cod := fun args H => match args, H with
  | [.c (.slc 0 l_i l_n l_t), .c (.ptr 1 0 0)], [o0, .rblk [.int .i64 of]] => (match o0.asInp 3 with | some l => .need ((l_i + l_n ≤ List.length l) ∧ (1 ≤ of ∧ of ≤ 16 ∧ l_n ≤ 40)) (.ret (.c (.int .i64 (F.cl ((l.drop l_i).take l_n) of)), [])) | none => .fail)
  | _, _ => .fail


theorem cnt_sound : Sound Try.prog cod 68 s_cnt := sound_runs (cfg := C_brun) L_brun_ok mixed Try.func68 rfl rfl _ fun args H r news hg b0 hb => by
  unfold s_cnt at hg
  split at hg
  · skip
    split at hg
    · rename_i l hx0
      cases asInp_spec hx0
      simp only [T.gives, T.wp, Prod.mk.injEq] at hg
      obtain ⟨⟨q0, q1⟩, rfl, rfl⟩ := hg
      exact cnt_run _ _ _ _ _ b0 hb (by assumption) (by assumption)
    · exact hg.elim
  · exact hg.elim

noncomputable def L_cnt : Sums cod := (68, s_cnt) :: L_brun
noncomputable def C_cnt : Cfg cod := mkC L_cnt

theorem L_cnt_ok : Snd Try.prog cod L_cnt := .cons cnt_sound L_brun_ok



def cuts_conf : Cuts := [(8, [0, 1, 7, 5, 25, 26, 8], 4), (12, [0, 1, 7, 5, 25, 8, 26, 10, 9], 4)]

theorem conf_t0 (l : List Bool) (l_t : Bool) (l_i l_n : Nat) (need : Int) (of : Int) : symF C_cnt cuts_conf Try.f37.results.toList 1 400 [.code (codeOf Try.f37)] ⟨argsS Try.f37 [.c (.slc 0 l_i l_n l_t), .c (.int .i64 need), .c (.int .i64 of)], ([.inp 3 l] : Heap cod)⟩ =
.need ((l_i + l_n ≤ List.length l ∧ (1 ≤ of ∧ (of ≤ 16 ∧ l_n ≤ 40)))) (
 cond (decide (need ≤ F.cl (List.take l_n (List.drop l_i l)) of)) (
 .ret (.fin (.c (.int .i64 1)) [])) (
 cond (decide (Int.ofNat l_n < of)) (
  .ret (.fin (.c (.int .i64 0)) [])) (
  .need (List.length (List.take l_n (List.drop l_i l)) = l_n) (
  .need (List.length ([] : List Unit) = 0) (
  .need ((0 < List.length (List.take l_n (List.drop l_i l)) ∧ 0 + List.length (List.take l_n (List.drop l_i l)) ≤ 1000000)) (
  .need (i64ok (of - 1)) (
  .ret (.cut (cutAt Try.f37 8) ⟨tmG 30 [(0, .c (.slc 0 (l_i) (l_n) l_t)), (0, .c (.int .i64 need)), (3, .c (.ptr 1 0 0)), (1, .c (.fn 68 [(1, 0, 0)])), (0, .c (.own 3 (0 + List.length (List.take l_n (List.drop l_i l))))), (16, .c (.int .i64 (of - 1))), (0, .c (.int .i64 0))], [.inp 3 l, .blk [.int .i64 of] 3, .arr 3 [] 4, .own 3 ([] ++ (List.take l_n (List.drop l_i l))) 4]⟩)))))))) := by kernel_rfl


noncomputable def st_conf_8 (l : List Bool) (l_t : Bool) (l_i l_n : Nat) (need : Int) (of : Int) (j : Int) (n : Nat) (ms : List Bool) : St cod := ⟨tmG 30 [(0, .c (.slc 0 (l_i) (l_n) l_t)), (0, .c (.int .i64 need)), (3, .c (.ptr 1 0 0)), (1, .c (.fn 68 [(1, 0, 0)])), (0, .c (.own 3 n)), (16, .c (.int .i64 (of - 1))), (0, .c (.int .i64 j))], ([.inp 3 l, .blk [.int .i64 of] 3, .arr 3 [] 4, .own 3 ms 4] : Heap cod)⟩


theorem conf_t8 (l : List Bool) (l_t : Bool) (l_i l_n : Nat) (need : Int) (of : Int) (j : Int) (n : Nat) (ms : List Bool) : symF C_cnt cuts_conf Try.f37.results.toList 1 400 (cutAt Try.f37 8) (st_conf_8 l l_t l_i l_n need of j n ms) =
 cond (decide (j < of - 1)) (
 .need (List.length [true] = 1) (
 .need (n + List.length [true] ≤ 1000000) (
 .need (i64ok (Int.ofNat (n + List.length [true]) - of)) (
 .ret (.cut (cutAt Try.f37 12) ⟨tmG 30 [(0, .c (.slc 0 (l_i) (l_n) l_t)), (0, .c (.int .i64 need)), (3, .c (.ptr 1 0 0)), (1, .c (.fn 68 [(1, 0, 0)])), (0, .c (.own 3 (n + List.length [true]))), (0, .c (.int .i64 0)), (0, .c (.int .i64 (Int.ofNat (n + List.length [true]) - of))), (14, .c (.int .i64 (of - 1))), (0, .c (.int .i64 j))], [.inp 3 l, .blk [.int .i64 of] 3, .arr 3 [] 4, .own 3 (ms ++ [true]) 4]⟩))))) (
 .ret (.fin (.c (.int .i64 2)) [])) := by kernel_rfl


noncomputable def st_conf_12 (l : List Bool) (l_t : Bool) (l_i l_n : Nat) (need : Int) (of : Int) (j : Int) (n : Nat) (ms : List Bool) (i old : Int) : St cod := ⟨tmG 30 [(0, .c (.slc 0 (l_i) (l_n) l_t)), (0, .c (.int .i64 need)), (3, .c (.ptr 1 0 0)), (1, .c (.fn 68 [(1, 0, 0)])), (0, .c (.own 3 n)), (0, .c (.int .i64 old)), (0, .c (.int .i64 i)), (14, .c (.int .i64 (of - 1))), (0, .c (.int .i64 j))], ([.inp 3 l, .blk [.int .i64 of] 3, .arr 3 [] 4, .own 3 ms 4] : Heap cod)⟩


theorem conf_t12 (l : List Bool) (l_t : Bool) (l_i l_n : Nat) (need : Int) (of : Int) (j : Int) (n : Nat) (ms : List Bool) (i old : Int) : symF C_cnt cuts_conf Try.f37.results.toList 1 400 (cutAt Try.f37 12) (st_conf_12 l l_t l_i l_n need of j n ms i old) =
 cond (decide (i < Int.ofNat l_n)) (
 .need ((0 ≤ i ∧ i < Int.ofNat l_n)) (
 .need (l_i + Int.toNat i < List.length l) (
 cond (List.getD l (l_i + Int.toNat i) (cod 3).d) (
  .need (i64ok (old + 1)) (
  .need (i64ok (i + 1)) (
  .ret (.cut (cutAt Try.f37 12) ⟨tmG 30 [(0, .c (.slc 0 (l_i) (l_n) l_t)), (0, .c (.int .i64 need)), (3, .c (.ptr 1 0 0)), (1, .c (.fn 68 [(1, 0, 0)])), (0, .c (.own 3 (n))), (0, .c (.int .i64 (old + 1))), (0, .c (.int .i64 (i + 1))), (14, .c (.int .i64 (of - 1))), (0, .c (.int .i64 j))], [.inp 3 l, .blk [.int .i64 of] 3, .arr 3 [] 4, .own 3 ms 4]⟩)))) (
  .need (i64ok (i + 1)) (
  .ret (.cut (cutAt Try.f37 12) ⟨tmG 30 [(0, .c (.slc 0 (l_i) (l_n) l_t)), (0, .c (.int .i64 need)), (3, .c (.ptr 1 0 0)), (1, .c (.fn 68 [(1, 0, 0)])), (0, .c (.own 3 (n))), (0, .c (.int .i64 old)), (0, .c (.int .i64 (i + 1))), (14, .c (.int .i64 (of - 1))), (0, .c (.int .i64 j))], [.inp 3 l, .blk [.int .i64 of] 3, .arr 3 [] 4, .own 3 ms 4]⟩)))))) (
 cond (decide (0 < old)) (
  .need ((0 + n ≤ List.length ms ∧ (1 ≤ of ∧ (of ≤ 16 ∧ n ≤ 40)))) (
  cond (decide (need ≤ F.cl (List.take n (List.drop 0 ms)) of)) (
   .ret (.fin (.c (.int .i64 0)) [])) (
   .need (i64ok (j + 1)) (
   .ret (.cut (cutAt Try.f37 8) ⟨tmG 30 [(0, .c (.slc 0 (l_i) (l_n) l_t)), (0, .c (.int .i64 need)), (3, .c (.ptr 1 0 0)), (1, .c (.fn 68 [(1, 0, 0)])), (0, .c (.own 3 (n))), (16, .c (.int .i64 (of - 1))), (0, .c (.int .i64 (j + 1)))], [.inp 3 l, .blk [.int .i64 of] 3, .arr 3 [] 4, .own 3 ms 4]⟩))))) (
  .need (i64ok (j + 1)) (
  .ret (.cut (cutAt Try.f37 8) ⟨tmG 30 [(0, .c (.slc 0 (l_i) (l_n) l_t)), (0, .c (.int .i64 need)), (3, .c (.ptr 1 0 0)), (1, .c (.fn 68 [(1, 0, 0)])), (0, .c (.own 3 (n))), (16, .c (.int .i64 (of - 1))), (0, .c (.int .i64 (j + 1)))], [.inp 3 l, .blk [.int .i64 of] 3, .arr 3 [] 4, .own 3 ms 4]⟩)))) := by kernel_rfl



open Classical in
theorem conf_loop (l : List Bool) (l_t : Bool) (a k : Nat) (hl : a + k ≤ l.length) (need of : Int) (hr : 1 ≤ of ∧ of ≤ 16) (hk : k ≤ 16 ∧ 1 ≤ k) (hko : of ≤ k) (b0 : Base) (hb : b0.n = 1) (L : List Bool) (hL : L = (l.drop a).take k) (u : Int) : ∀ (m : Nat) (j : Nat), (j : Int) + m = of - 1 → u = (if (∃ j', (j : Int) + 1 ≤ j' ∧ j' < of ∧ 0 < F.cl L (of - j') ∧ need ≤ F.cl L (of - j') + j') then 0 else 2) →
    Sym.Runs Try.prog b0 (cutAt Try.f37 8) (st_conf_8 l l_t a k need of j (k + j) (L ++ List.replicate j true)) (Sym.Ends Try.prog Try.f37 1 (.c (.int .i64 u)) []) := by
  have hd : (cod 3).d = false := rfl
  have hlen : L.length = k := by rw [hL]; exact sub_len l a k hl
  intro m
  induction m with
  | zero =>
    intro j hm hu
    refine Runs.go (cfg := C_cnt) L_cnt_ok mixed cuts_conf 400 hb (conf_t8 l l_t a k need of j (k + j) _) ?_
    have h1 : ¬ (j : Int) < of - 1 := by omega
    rw [if_neg (by rintro ⟨j', g2, g3, _⟩; omega)] at hu
    simp only [T.wp, T.wp_cond, Aft, Int.ofNat_eq_natCast, decide_eq_true_eq, and_true, true_and, Nat.zero_add, Bool.not_eq_true', decide_eq_false_iff_not, h1, if_false, hu]
  | succ m ih =>
    intro j hm hu
    refine Runs.go (cfg := C_cnt) L_cnt_ok mixed cuts_conf 400 hb (conf_t8 l l_t a k need of j (k + j) _) ?_
    have h1 : (j : Int) < of - 1 := by omega
    have e1 : L ++ List.replicate j true ++ [true] = L ++ List.replicate (j + 1) true := by rw [List.append_assoc, List.replicate_succ']
    have split : (∃ j', (j : Int) + 1 ≤ j' ∧ j' < of ∧ 0 < F.cl L (of - j') ∧ need ≤ F.cl L (of - j') + j') ↔ (0 < F.cl L (of - (j + 1)) ∧ need ≤ F.cl L (of - (j + 1)) + (j + 1)) ∨ (∃ j', ((j + 1 : Nat) : Int) + 1 ≤ j' ∧ j' < of ∧ 0 < F.cl L (of - j') ∧ need ≤ F.cl L (of - j') + j') := by
      constructor
      · rintro ⟨j', p1, p2, p3⟩
        by_cases p : j' = (j : Int) + 1
        · subst p; exact .inl p3
        · exact .inr ⟨j', by omega, p2, p3⟩
      · rintro (p | ⟨j', p1, p2, p3⟩)
        · exact ⟨(j : Int) + 1, by omega, by omega, p⟩
        · exact ⟨j', by omega, p2, p3⟩
    simp only [split] at hu
    rw [e1]
    simp only [T.wp, T.wp_cond, Aft, Int.ofNat_eq_natCast, decide_eq_true_eq, and_true, true_and, Nat.zero_add, Bool.not_eq_true', decide_eq_false_iff_not, h1, if_true, List.length_singleton]
    refine ⟨by omega, by unfold i64ok; omega, ?_⟩
    -- the old ones
    have inner : ∀ (q : Nat) (i old : Int), 0 ≤ i → i + q = k → 0 ≤ old ∧ old ≤ i → F.cl L (of - (j + 1)) = old + ((L.drop i.toNat).count true : Nat) →
        Sym.Runs Try.prog b0 (cutAt Try.f37 12) (st_conf_12 l l_t a k need of j (k + (j + 1)) (L ++ List.replicate (j + 1) true) i old) (Sym.Ends Try.prog Try.f37 1 (.c (.int .i64 u)) []) := by
      intro q
      induction q with
      | zero =>
        intro i old hi hq ho hc
        refine Runs.go (cfg := C_cnt) L_cnt_ok mixed cuts_conf 400 hb (conf_t12 l l_t a k need of j (k + (j + 1)) _ i old) ?_
        have g1 : ¬ i < (k : Int) := by omega
        rw [List.drop_of_length_le (by omega)] at hc
        simp only [List.count_nil] at hc
        have e3 : F.cl (List.take (k + (j + 1)) (List.drop 0 (L ++ List.replicate (j + 1) true))) of = F.cl L (of - (j + 1)) + (j + 1) := by
          rw [List.drop_zero, List.take_of_length_le (by rw [List.length_append, List.length_replicate]; omega), cl_trues L (j + 1) (by omega), show ((j + 1 : Nat) : Int) = (j : Int) + 1 by omega]
        have nx := ih (j + 1) (by omega)
        simp only [T.wp, T.wp_cond, Aft, Int.ofNat_eq_natCast, decide_eq_true_eq, and_true, true_and, Nat.zero_add, Bool.not_eq_true', decide_eq_false_iff_not, g1, if_false]
        rw [e3]
        obtain rfl : F.cl L (of - (j + 1)) = old := by omega
        by_cases p1 : 0 < F.cl L (of - (j + 1))
        · simp only [p1, if_true, true_and, List.length_append, List.length_replicate] at hu ⊢
          refine ⟨by omega, ?_⟩
          by_cases p2 : need ≤ F.cl L (of - (j + 1)) + (j + 1)
          · simp only [p2, if_true, true_or] at hu ⊢
            rw [hu]
          · simp only [p2, if_false, false_or] at hu ⊢
            exact ⟨by unfold i64ok; omega, nx hu⟩
        · simp only [p1, if_false, false_and, false_or] at hu ⊢
          exact ⟨by unfold i64ok; omega, nx hu⟩
      | succ q ihq =>
        intro i old hi hq ho hc
        refine Runs.go (cfg := C_cnt) L_cnt_ok mixed cuts_conf 400 hb (conf_t12 l l_t a k need of j (k + (j + 1)) _ i old) ?_
        have g1 : i < (k : Int) := by omega
        rw [drop_at L false hi (by omega), List.count_cons] at hc
        have e0 := sub_getD l a k i.toNat false (by omega)
        rw [← hL] at e0
        rw [e0] at hc
        simp only [T.wp, T.wp_cond, Aft, Int.ofNat_eq_natCast, decide_eq_true_eq, and_true, true_and, Nat.zero_add, Bool.not_eq_true', decide_eq_false_iff_not, g1, if_true, hd]
        refine ⟨hi, by omega, ?_⟩
        cases g : l.getD (a + i.toNat) false
        · simp only [g, Bool.false_eq_true, if_false, beq_iff_eq, Nat.add_zero] at hc ⊢
          exact ⟨by unfold i64ok; omega, ihq (i + 1) old (by omega) (by omega) (by omega) hc⟩
        · simp only [g, if_true, beq_self_eq_true] at hc ⊢
          exact ⟨by unfold i64ok; omega, by unfold i64ok; omega, ihq (i + 1) (old + 1) (by omega) (by omega) (by omega) (by omega)⟩
    have e5 : ((k + j + 1 : Nat) : Int) - of = ((k + (j + 1) - of.toNat : Nat) : Int) := by omega
    have := inner (of.toNat - (j + 1)) ((k + j + 1 : Nat) - of) 0 (by omega) (by omega) (by omega) (by
      unfold F.cl
      rw [hlen, Int.zero_add]
      congr 3
      omega)
    exact this
theorem conf_run (l : List Bool) (l_t : Bool) (l_i l_n : Nat) (need : Int) (of : Int) (b0 : Base) (hb : b0.n = 1) (h0 : l_i + l_n ≤ List.length l) (h1 : 1 ≤ of ∧ of ≤ 16 ∧ l_n ≤ 16 ∧ 1 ≤ l_n) : Sym.Runs Try.prog b0 [.code (codeOf Try.f37)] ⟨argsS Try.f37 [.c (.slc 0 l_i l_n l_t), .c (.int .i64 need), .c (.int .i64 of)], ([.inp 3 l] : Heap cod)⟩ (Sym.Ends Try.prog Try.f37 1 (.c (.int .i64 (F.conf ((l.drop l_i).take l_n) need of))) []) := by
  classical
  refine Runs.go (cfg := C_cnt) L_cnt_ok mixed cuts_conf 400 hb (conf_t0 l l_t l_i l_n need of) ?_
  obtain ⟨a1, a2, a3, a4⟩ := h1
  have hlen := sub_len l l_i l_n h0
  unfold F.conf
  rw [hlen]
  simp only [T.wp, T.wp_cond, Aft, Int.ofNat_eq_natCast, decide_eq_true_eq, and_true, true_and, Nat.zero_add, Bool.not_eq_true', decide_eq_false_iff_not]
  generalize hL : (l.drop l_i).take l_n = L at *
  refine ⟨by omega, ?_⟩
  by_cases p1 : need ≤ F.cl L of
  · simp only [p1, if_true]
  by_cases p2 : (l_n : Int) < of
  · simp only [p1, p2, if_true, if_false]
  simp only [p1, p2, if_false, hlen]
  refine ⟨by trivial, by omega, by unfold i64ok; omega, ?_⟩
  have := conf_loop l l_t l_i l_n h0 need of ⟨a1, a2⟩ ⟨a3, a4⟩ (by omega) b0 hb L hL.symm _ (of - 1).toNat 0 (by omega) rfl
  simp only [List.replicate_zero, List.append_nil, Nat.add_zero] at this
  exact this



noncomputable def s_conf : Summ cod := fun args H => match args, H with
  | [.c (.slc 0 l_i l_n l_t), .c (.int .i64 need), .c (.int .i64 of)], [o0] => (match o0.asInp 3 with | some l => .need ((l_i + l_n ≤ List.length l) ∧ (1 ≤ of ∧ of ≤ 16 ∧ l_n ≤ 16 ∧ 1 ≤ l_n)) (.ret (.c (.int .i64 (F.conf ((l.drop l_i).take l_n) need of)), [])) | none => .fail)
  | _, _ => .fail


theorem conf_sound : Sound Try.prog cod 37 s_conf := sound_runs (cfg := C_cnt) L_cnt_ok mixed Try.func37 rfl rfl _ fun args H r news hg b0 hb => by
  unfold s_conf at hg
  split at hg
  · skip
    split at hg
    · rename_i l hx0
      cases asInp_spec hx0
      simp only [T.gives, T.wp, Prod.mk.injEq] at hg
      obtain ⟨⟨q0, q1⟩, rfl, rfl⟩ := hg
      exact conf_run _ _ _ _ _ _ b0 hb (by assumption) (by assumption)
    · exact hg.elim
  · exact hg.elim

noncomputable def L_conf : Sums cod := (37, s_conf) :: L_cnt
noncomputable def C_conf : Cfg cod := mkC L_conf

theorem L_conf_ok : Snd Try.prog cod L_conf := .cons conf_sound L_cnt_ok


end
end Go.Proofs.Ythljcjighomgkaa
