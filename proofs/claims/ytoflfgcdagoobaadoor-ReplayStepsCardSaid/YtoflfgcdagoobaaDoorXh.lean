/- Part of a claim: lemmas on the way to its theorem; each states its own conditions. -/
import Derived.Test.YtoflfgcdagoobaaDoorXg
import Derived.Test.YtoflfgcdagoobaaDoorSym35
namespace Go.Proofs.YtoflfgcdagoobaaDoor
open Sym Go.RowKit
noncomputable section
set_option maxRecDepth 100000
set_option maxHeartbeats 4000000



namespace F
def line (r : Row) : List UInt8 := r.1 ++ [61] ++ r.2 ++ [10]
def lines (l : List Row) : List UInt8 := l.flatMap line
def dg (h c : Int) : Int := IntKind.wrap IntKind.u64 (bits BinOp.xor IntKind.u64 h (IntKind.wrap IntKind.u64 c) * 1099511628211)
def dgs (h : Int) (s : List UInt8) : Int := s.foldl (fun h b => dg h b.toNat) h
def digest (l : List Row) : Int := dgs 14695981039346656037 (lines l)
def digV (l : List Row) : Int := if chk l = 0 then digest l else 0
end F


theorem lines_len {l : List F.Row} (h : ∀ r ∈ l, F.key r.1 = true ∧ F.value r.2 = true) : (F.lines l).length ≤ 54 * l.length := by
  induction l with
  | nil => exact Nat.le_refl _
  | cons r l ih =>
    have i1 := ih fun x hx => h x (List.mem_cons_of_mem _ hx)
    obtain ⟨h1, h2⟩ := h r (List.mem_cons_self ..)
    unfold F.key at h1
    unfold F.value at h2
    rw [Bool.and_eq_true, decide_eq_true_eq] at h1 h2
    have e : F.lines (r :: l) = F.line r ++ F.lines l := rfl
    rw [e]
    unfold F.line
    simp only [List.length_append, List.length_cons, List.length_nil] at i1 ⊢
    omega
theorem dg_eq (g c : Int) : IntKind.wrap IntKind.u64 (IntKind.wrap IntKind.u64 (IntKind.wrap IntKind.u64 (bits BinOp.xor IntKind.u64 g (IntKind.wrap IntKind.u64 c) * 2 ^ min (Int.toNat 40) 64) + IntKind.wrap IntKind.u64 (bits BinOp.xor IntKind.u64 g (IntKind.wrap IntKind.u64 c) * 2 ^ min (Int.toNat 8) 64)) + IntKind.wrap IntKind.u64 (bits BinOp.xor IntKind.u64 g (IntKind.wrap IntKind.u64 c) * 179)) = F.dg g c := by
  unfold F.dg
  generalize bits BinOp.xor IntKind.u64 g (IntKind.wrap IntKind.u64 c) = x
  have w : ∀ y, IntKind.wrap IntKind.u64 y = y % 18446744073709551616 := fun _ => rfl
  have e1 : ((2 : Int) ^ min (Int.toNat 40) 64) = 1099511627776 := by decide
  have e2 : ((2 : Int) ^ min (Int.toNat 8) 64) = 256 := by decide
  simp only [w, e1, e2]
  omega


def cuts_lines : Cuts := [(3, [6, 7, 8, 3], 1)]

theorem lines_t0 (l : List (List UInt8 × List UInt8)) (l_t : Bool) : symF C_same cuts_lines Tryd.f35.results.toList 1 400 [.code (codeOf Tryd.f35)] ⟨argsS Tryd.f35 [.c (.slc 0 0 (List.length l) l_t)], ([.inp 1 l] : Heap cod)⟩ =
.ret (.cut (cutAt Tryd.f35 3) ⟨tmG 14 [(3, .c (.str [])), (2, .c (.slc 0 0 (List.length l) l_t)), (0, .c (.int .i64 (Int.ofNat (List.length l)))), (0, .c (.int .i64 0))], [.inp 1 l]⟩) := by kernel_rfl


noncomputable def st_lines_3 (l : List (List UInt8 × List UInt8)) (l_t : Bool) (i : Int) (s : List UInt8) : St cod := ⟨tmG 14 [(3, .c (.str s)), (2, .c (.slc 0 0 (List.length l) l_t)), (0, .c (.int .i64 (Int.ofNat (List.length l)))), (0, .c (.int .i64 i))], [.inp 1 l]⟩


theorem lines_t3 (l : List (List UInt8 × List UInt8)) (l_t : Bool) (i : Int) (s : List UInt8) : symF C_same cuts_lines Tryd.f35.results.toList 1 400 (cutAt Tryd.f35 3) (st_lines_3 l l_t i s) =
 cond (decide (i < Int.ofNat (List.length l))) (
 .need (((0 : Int) ≤ i ∧ i < Int.ofNat (List.length l))) (
 .need (0 + Int.toNat i < List.length l) (
 .need (List.length (List.getD l (0 + Int.toNat i) (cod 1).d).1 + 1 ≤ 9223372036854775807) (
 .need (List.length ((List.getD l (0 + Int.toNat i) (cod 1).d).1 ++ [61]) +     List.length (List.getD l (0 + Int.toNat i) (cod 1).d).2 ≤   9223372036854775807) (
 .need (List.length ((List.getD l (0 + Int.toNat i) (cod 1).d).1 ++ [61] ++ (List.getD l (0 + Int.toNat i) (cod 1).d).2) + 1 ≤   9223372036854775807) (
 .need (List.length s +     List.length       ((List.getD l (0 + Int.toNat i) (cod 1).d).1 ++ [61] ++ (List.getD l (0 + Int.toNat i) (cod 1).d).2 ++ [10]) ≤   9223372036854775807) (
 .need (i64ok (i + 1)) (
 .ret (.cut (cutAt Tryd.f35 3) ⟨tmG 14 [(3, .c (.str (s ++ ((List.getD l (0 + Int.toNat i) (cod 1).d).1 ++ [61] ++ (List.getD l (0 + Int.toNat i) (cod 1).d).2 ++ [10])))), (2, .c (.slc 0 0 (List.length l) l_t)), (0, .c (.int .i64 (Int.ofNat (List.length l)))), (0, .c (.int .i64 (i + 1)))], [.inp 1 l]⟩))))))))) (
 .ret (.fin (.c (.str s)) [])) := by kernel_rfl



theorem lines_run (l : List (List UInt8 × List UInt8)) (l_t : Bool) (b0 : Base) (hb : b0.n = 1) (h0 : F.chk l = 0) : Sym.Runs Tryd.prog b0 [.code (codeOf Tryd.f35)] ⟨argsS Tryd.f35 [.c (.slc 0 0 (List.length l) l_t)], ([.inp 1 l] : Heap cod)⟩ (Sym.Ends Tryd.prog Tryd.f35 1 (.c (.str (F.lines l))) []) := by
  have e0 : ∀ k, List.getD l k (cod 1).d = List.getD l k F.r0 := fun _ => rfl
  obtain ⟨c1, c2, c3⟩ := chk0 h0
  have key : ∀ (m j : Nat) (s : List UInt8), j + m = l.length → s = F.lines (l.take j) →
      Sym.Runs Tryd.prog b0 (cutAt Tryd.f35 3) (st_lines_3 l l_t (j : Int) s) (Sym.Ends Tryd.prog Tryd.f35 1 (.c (.str (F.lines l))) []) := by
    intro m
    induction m with
    | zero =>
      intro j s hm hs
      refine Runs.go (cfg := C_same) L_same_ok mixed cuts_lines 400 hb (lines_t3 l l_t (j : Int) s) ?_
      rw [List.take_of_length_le (by omega)] at hs
      simp only [T.wp, T.wp_cond, Aft, Int.ofNat_eq_natCast, decide_eq_true_eq, and_true, true_and, Nat.zero_add, Bool.not_eq_true', decide_eq_false_iff_not]
      refine ite_no (by omega) ?_
      rw [hs]
    | succ m ih =>
      intro j s hm hs
      refine Runs.go (cfg := C_same) L_same_ok mixed cuts_lines 400 hb (lines_t3 l l_t (j : Int) s) ?_
      have hj : j < l.length := by omega
      have et : l.take (j + 1) = l.take j ++ [l.getD j F.r0] := by
        rw [List.take_succ_eq_append_getElem hj, List.getD, List.getElem?_eq_getElem hj]; rfl
      have nx := ih (j + 1) (s ++ F.line (l.getD j F.r0)) (by omega) (by rw [et, hs]; unfold F.lines; rw [List.flatMap_append]; simp)
      have sl := lines_len (l := l.take j) (fun r hr => c3 r (List.mem_of_mem_take hr))
      rw [← hs, List.length_take] at sl
      obtain ⟨k1, k2⟩ := c3 _ (mem_gd hj)
      unfold F.key at k1
      unfold F.value at k2
      rw [Bool.and_eq_true, decide_eq_true_eq] at k1 k2
      simp only [T.wp, T.wp_cond, Aft, Int.ofNat_eq_natCast, decide_eq_true_eq, and_true, true_and, Nat.zero_add, Bool.not_eq_true', decide_eq_false_iff_not, Int.toNat_natCast, e0]
      generalize l.getD j F.r0 = r at *
      refine ite_yes (by omega) ⟨⟨by omega, by omega⟩, hj, ?_⟩
      simp only [List.length_append, List.length_cons, List.length_nil]
      exact ⟨by omega, by omega, by omega, by omega, by unfold i64ok; omega, nx⟩
  refine Runs.go (cfg := C_same) L_same_ok mixed cuts_lines 400 hb (lines_t0 l l_t) ?_
  simp only [T.wp, T.wp_cond, Aft, Int.ofNat_eq_natCast, decide_eq_true_eq, and_true, true_and, Nat.zero_add, Bool.not_eq_true', decide_eq_false_iff_not]
  exact key l.length 0 [] (by omega) rfl



noncomputable def s_lines : Summ cod := fun args H => match args, H with
  | [.c (.slc 0 l_i l_n l_t)], [o0] => (match o0.asInp 1 with | some l => .need ((l_i = 0 ∧ l_n = List.length l) ∧ (F.chk l = 0)) (.ret (.c (.str (F.lines l)), [])) | none => .fail)
  | _, _ => .fail


theorem lines_sound : Sound Tryd.prog cod 35 s_lines := sound_runs (cfg := C_same) L_same_ok mixed Tryd.func35 rfl rfl _ fun args H r news hg b0 hb => by
  unfold s_lines at hg
  split at hg
  · skip
    split at hg
    · rename_i l hx0
      cases asInp_spec hx0
      simp only [T.gives, T.wp, Prod.mk.injEq] at hg
      obtain ⟨⟨⟨rfl, rfl⟩, q1⟩, rfl, rfl⟩ := hg
      exact lines_run _ _ b0 hb (by assumption)
    · exact hg.elim
  · exact hg.elim

noncomputable def L_lines : Sums cod := (35, .p s_lines) :: L_same
noncomputable def C_lines : Cfg cod := mkC L_lines

theorem L_lines_ok : Snd Tryd.prog cod L_lines := .cons lines_sound L_same_ok



def cuts_digest : Cuts := [(6, [15, 16, 17, 5], 2)]

theorem digest_t0 (l : List (List UInt8 × List UInt8)) (l_t : Bool) : symF C_lines cuts_digest Tryd.f10.results.toList 1 400 [.code (codeOf Tryd.f10)] ⟨argsS Tryd.f10 [.c (.slc 0 0 (List.length l) l_t)], ([.inp 1 l] : Heap cod)⟩ =
.need (((0 = 0 ∧ List.length l = List.length l) ∧ F.short l)) (
 cond (!decide (F.chk l = 0)) (
 .ret (.fin (.tup [.c (.int .u64 0), .c (.int .i64 (F.chk l))]) [])) (
 .need (((0 = 0 ∧ List.length l = List.length l) ∧ F.chk l = 0)) (
 .need (((∀ (n : Int), (cod 3).ok [Cell.int IntKind.u8 n] = true) ∧ List.length (F.lines l) ≤ 9223372036854775807)) (
 .ret (.cut (cutAt Tryd.f10 6) ⟨tmG 10 [(5, .c (.int .u64 14695981039346656037)), (9, .c (.slc 1 0 (List.length (F.lines l)) false)), (0, .c (.int .i64 (Int.ofNat (List.length (F.lines l))))), (0, .c (.int .i64 0))], [.inp 1 l, .inp 3 (List.map (fun b => Int.ofNat (UInt8.toNat b)) (F.lines l))]⟩))))) := by kernel_rfl


noncomputable def st_digest_6 (l : List (List UInt8 × List UInt8)) (l_t : Bool) (r : List Int) (i h : Int) (n : Nat) : St cod := ⟨tmG 10 [(5, .c (.int .u64 h)), (9, .c (.slc 1 0 n false)), (0, .c (.int .i64 n)), (0, .c (.int .i64 i))], ([.inp 1 l, .inp 3 r] : Heap cod)⟩


theorem digest_t6 (l : List (List UInt8 × List UInt8)) (l_t : Bool) (r : List Int) (i h : Int) (n : Nat) : symF C_lines cuts_digest Tryd.f10.results.toList 1 400 (cutAt Tryd.f10 6) (st_digest_6 l l_t r i h n) =
 cond (decide (i < Int.ofNat n)) (
 .need (((0 : Int) ≤ i ∧ i < Int.ofNat n)) (
 .need (0 + Int.toNat i < List.length r) (
 .need (i64ok (i + 1)) (
 .ret (.cut (cutAt Tryd.f10 6) ⟨tmG 10 [(5, .c (.int .u64 (IntKind.wrap IntKind.u64   (bits BinOp.xor IntKind.u64 h (IntKind.wrap IntKind.u64 (List.getD r (0 + Int.toNat i) (cod 3).d)) * 1099511628211)))), (9, .c (.slc 1 0 (n) false)), (0, .c (.int .i64 (Int.ofNat n))), (0, .c (.int .i64 (i + 1)))], [.inp 1 l, .inp 3 r]⟩))))) (
 .ret (.fin (.tup [.c (.int .u64 h), .c (.int .i64 0)]) [])) := by kernel_rfl



theorem digest_run (l : List (List UInt8 × List UInt8)) (l_t : Bool) (b0 : Base) (hb : b0.n = 1) (h0 : F.short l) : Sym.Runs Tryd.prog b0 [.code (codeOf Tryd.f10)] ⟨argsS Tryd.f10 [.c (.slc 0 0 (List.length l) l_t)], ([.inp 1 l] : Heap cod)⟩ (Sym.Ends Tryd.prog Tryd.f10 1 (.tup [.c (.int .u64 (F.digV l)), .c (.int .i64 (F.chk l))]) []) := by
  unfold F.digV
  by_cases c : F.chk l = 0
  · obtain ⟨c1, c2, c3⟩ := chk0 c
    have hln := lines_len c3
    rw [if_pos c]
    have hr0 : ∃ r : List Int, ((F.lines l).map fun b => Int.ofNat b.toNat) = r ∧ r.length = (F.lines l).length ∧ F.digest l = r.foldl F.dg 14695981039346656037 :=
      ⟨_, rfl, List.length_map .., by rw [List.foldl_map]; rfl⟩
    obtain ⟨r, hr, hlen, hall⟩ := hr0
    have key : ∀ (m : Nat) (i h : Int), 0 ≤ i → i + m = r.length → F.digest l = (r.drop i.toNat).foldl F.dg h →
        Sym.Runs Tryd.prog b0 (cutAt Tryd.f10 6) (st_digest_6 l l_t r i h (F.lines l).length) (Sym.Ends Tryd.prog Tryd.f10 1 (.tup [.c (.int .u64 (F.digest l)), .c (.int .i64 (F.chk l))]) []) := by
      intro m
      induction m with
      | zero =>
        intro i h hi hm hl
        refine Runs.go (cfg := C_lines) L_lines_ok mixed cuts_digest 400 hb (digest_t6 l l_t r i h (F.lines l).length) ?_
        rw [drop_end r (by omega)] at hl
        simp only [T.wp, T.wp_cond, Aft, Int.ofNat_eq_natCast, decide_eq_true_eq, and_true, true_and, Nat.zero_add, Bool.not_eq_true', decide_eq_false_iff_not]
        refine ite_no (by omega) ?_
        rw [hl, c]; rfl
      | succ m ih =>
        intro i h hi hm hl
        refine Runs.go (cfg := C_lines) L_lines_ok mixed cuts_digest 400 hb (digest_t6 l l_t r i h (F.lines l).length) ?_
        rw [drop_at r (0 : Int) hi (by omega), List.foldl_cons] at hl
        have nx := ih (i + 1) _ (by omega) (by omega) hl
        have e0 : ∀ k, List.getD r k (cod 3).d = List.getD r k (0 : Int) := fun _ => rfl
        simp only [T.wp, T.wp_cond, Aft, Int.ofNat_eq_natCast, decide_eq_true_eq, and_true, true_and, Nat.zero_add, Bool.not_eq_true', decide_eq_false_iff_not, e0]
        exact ite_yes (by omega) ⟨⟨hi, by omega⟩, by omega, by unfold i64ok; omega, nx⟩
    refine Runs.go (cfg := C_lines) L_lines_ok mixed cuts_digest 400 hb (digest_t0 l l_t) ?_
    simp only [T.wp, T.wp_cond, Aft, Int.ofNat_eq_natCast, decide_eq_true_eq, and_true, true_and, Nat.zero_add, Bool.not_eq_true', decide_eq_false_iff_not]
    subst hr
    exact ⟨h0, ite_no (by simpa using c) ⟨c, ⟨fun _ => rfl, by omega⟩, key (F.lines l).length 0 _ (by omega) (by omega) (by simpa using hall)⟩⟩
  · rw [if_neg c]
    refine Runs.go (cfg := C_lines) L_lines_ok mixed cuts_digest 400 hb (digest_t0 l l_t) ?_
    simp only [T.wp, T.wp_cond, Aft, Int.ofNat_eq_natCast, decide_eq_true_eq, and_true, true_and, Nat.zero_add, Bool.not_eq_true', decide_eq_false_iff_not]
    exact ⟨h0, ite_yes (by simpa using c) trivial⟩



noncomputable def s_digest : Summ cod := fun args H => match args, H with
  | [.c (.slc 0 l_i l_n l_t)], [o0] => (match o0.asInp 1 with | some l => .need ((l_i = 0 ∧ l_n = List.length l) ∧ (F.short l)) (.ret (.tup [.c (.int .u64 (F.digV l)), .c (.int .i64 (F.chk l))], [])) | none => .fail)
  | _, _ => .fail


theorem digest_sound : Sound Tryd.prog cod 10 s_digest := sound_runs (cfg := C_lines) L_lines_ok mixed Tryd.func10 rfl rfl _ fun args H r news hg b0 hb => by
  unfold s_digest at hg
  split at hg
  · skip
    split at hg
    · rename_i l hx0
      cases asInp_spec hx0
      simp only [T.gives, T.wp, Prod.mk.injEq] at hg
      obtain ⟨⟨⟨rfl, rfl⟩, q1⟩, rfl, rfl⟩ := hg
      exact digest_run _ _ b0 hb (by assumption)
    · exact hg.elim
  · exact hg.elim

noncomputable def L_digest : Sums cod := (10, .p s_digest) :: L_lines
noncomputable def C_digest : Cfg cod := mkC L_digest

theorem L_digest_ok : Snd Tryd.prog cod L_digest := .cons digest_sound L_lines_ok



def cuts_dadd : Cuts := [(1, [1, 0, 5, 6], 1)]

theorem dadd_t0 (s : List UInt8) (h : Int) : symI C_digest cuts_dadd Tryd.f36.results.toList ([.blk [.int .u64 h] 30] : Heap cod) 400 [.code (codeOf Tryd.f36)] ⟨argsS Tryd.f36 [.c (.str s), .c (.ptr 0 0 0)], ([.blk [.int .u64 h] 30] : Heap cod)⟩ =
.ret (.cut (cutAt Tryd.f36 1) ⟨tmG 17 [(0, .c (.str s)), (0, .c (.ptr 0 0 0)), (3, .c (.int .i64 (Int.ofNat (List.length s)))), (0, .c (.int .i64 0))], [.blk [.int .u64 h] 30]⟩) := by kernel_rfl


noncomputable def st_dadd_1 (s : List UInt8) (h : Int) (i g : Int) : St cod := ⟨tmG 17 [(0, .c (.str s)), (0, .c (.ptr 0 0 0)), (3, .c (.int .i64 (Int.ofNat (List.length s)))), (0, .c (.int .i64 i))], ([.blk [.int .u64 g] 30] : Heap cod)⟩


theorem dadd_t1 (s : List UInt8) (h : Int) (i g : Int) : symI C_digest cuts_dadd Tryd.f36.results.toList ([.blk [.int .u64 h] 30] : Heap cod) 400 (cutAt Tryd.f36 1) (st_dadd_1 s h i g) =
 cond (decide (i < Int.ofNat (List.length s))) (
 .need (((0 : Int) ≤ i ∧ i < Int.ofNat (List.length s))) (
 .need ((0 : Int) ≤ 40) (
 .need ((0 : Int) ≤ 8) (
 .need (i64ok (i + 1)) (
 .ret (.cut (cutAt Tryd.f36 1) ⟨tmG 17 [(0, .c (.str s)), (0, .c (.ptr 0 0 0)), (3, .c (.int .i64 (Int.ofNat (List.length s)))), (0, .c (.int .i64 (i + 1)))], [.blk [.int .u64 (IntKind.wrap IntKind.u64   (IntKind.wrap IntKind.u64       (IntKind.wrap IntKind.u64           (bits BinOp.xor IntKind.u64 g               (IntKind.wrap IntKind.u64 (Int.ofNat (UInt8.toNat (List.getD s (Int.toNat i) 0)))) *             2 ^ min (Int.toNat 40) 64) +         IntKind.wrap IntKind.u64           (bits BinOp.xor IntKind.u64 g               (IntKind.wrap IntKind.u64 (Int.ofNat (UInt8.toNat (List.getD s (Int.toNat i) 0)))) *             2 ^ min (Int.toNat 8) 64)) +     IntKind.wrap IntKind.u64       (bits BinOp.xor IntKind.u64 g (IntKind.wrap IntKind.u64 (Int.ofNat (UInt8.toNat (List.getD s (Int.toNat i) 0)))) *         179)))] 30]⟩)))))) (
 .ret (.fin (.tup []) [.blk [.int .u64 g] 30])) := by kernel_rfl



theorem dadd_run (s : List UInt8) (h : Int) (b0 : Base) (hb : b0.n = 1) (h0 : s.length ≤ 1000000000000000) : Sym.Runs Tryd.prog b0 [.code (codeOf Tryd.f36)] ⟨argsS Tryd.f36 [.c (.str s), .c (.ptr 0 0 0)], ([.blk [.int .u64 h] 30] : Heap cod)⟩ (Sym.EndsI Tryd.prog Tryd.f36 ([.blk [.int .u64 h] 30] : Heap cod) (.tup []) [.blk [.int .u64 (F.dgs h s)] 30]) := by
  have key : ∀ (m : Nat) (i g : Int), 0 ≤ i → i + m = s.length → F.dgs h s = F.dgs g (s.drop i.toNat) →
      Sym.Runs Tryd.prog b0 (cutAt Tryd.f36 1) (st_dadd_1 s h i g) (Sym.EndsI Tryd.prog Tryd.f36 ([.blk [.int .u64 h] 30] : Heap cod) (.tup []) [.blk [.int .u64 (F.dgs h s)] 30]) := by
    intro m
    induction m with
    | zero =>
      intro i g hi hm hl
      refine Runs.goI (cfg := C_digest) L_digest_ok mixed cuts_dadd 400 (H := ([.blk [.int .u64 h] 30] : Heap cod)) hb (dadd_t1 s h i g) ?_
      rw [drop_end s (by omega)] at hl
      simp only [T.wp, T.wp_cond, Aft, Int.ofNat_eq_natCast, decide_eq_true_eq, and_true, true_and, Nat.zero_add, Bool.not_eq_true', decide_eq_false_iff_not]
      refine ite_no (by omega) ?_
      rw [hl]; rfl
    | succ m ih =>
      intro i g hi hm hl
      refine Runs.goI (cfg := C_digest) L_digest_ok mixed cuts_dadd 400 (H := ([.blk [.int .u64 h] 30] : Heap cod)) hb (dadd_t1 s h i g) ?_
      rw [drop_at s 0 hi (by omega), show ∀ x r, F.dgs g (x :: r) = F.dgs (F.dg g x.toNat) r from fun _ _ => rfl] at hl
      have nx := ih (i + 1) _ (by omega) (by omega) hl
      rw [← dg_eq] at nx
      simp only [T.wp, T.wp_cond, Aft, Int.ofNat_eq_natCast, decide_eq_true_eq, and_true, true_and, Nat.zero_add, Bool.not_eq_true', decide_eq_false_iff_not]
      exact ite_yes (by omega) ⟨⟨hi, by omega⟩, by decide, by decide, by unfold i64ok; omega, nx⟩
  refine Runs.goI (cfg := C_digest) L_digest_ok mixed cuts_dadd 400 (H := ([.blk [.int .u64 h] 30] : Heap cod)) hb (dadd_t0 s h) ?_
  simp only [T.wp, T.wp_cond, Aft, Int.ofNat_eq_natCast, decide_eq_true_eq, and_true, true_and, Nat.zero_add, Bool.not_eq_true', decide_eq_false_iff_not]
  exact key s.length 0 h (by omega) (by omega) rfl



noncomputable def s_dadd : Summ cod := fun args H => match args, H with
  | [.c (.str s), .c (.ptr 0 0 0)], [.blk [.int .u64 h] 30] => .need ((s.length ≤ 1000000000000000)) (.ret (.tup [], [.blk [.int .u64 (F.dgs h s)] 30]))
  | _, _ => .fail


theorem dadd_sound : SoundI Tryd.prog cod 36 s_dadd := tree_soundI (cfg := C_digest) Tryd.func36 rfl rfl _ fun args H r H' hg b0 hb => by
  unfold s_dadd at hg
  split at hg
  · skip
    obtain ⟨hq, hg⟩ := hg
    have q0 := hq
    cases hg
    exact dadd_run _ _ b0 hb (by assumption)
  · exact hg.elim

noncomputable def L_dadd : Sums cod := (36, .i s_dadd) :: L_digest
noncomputable def C_dadd : Cfg cod := mkC L_dadd

theorem L_dadd_ok : Snd Tryd.prog cod L_dadd := .consI dadd_sound L_digest_ok



def cuts_rdig : Cuts := [(4, [4, 8, 3, 9, 10], 2)]

theorem rdig_t0 (l : List (List UInt8 × List UInt8)) (l_t : Bool) : symF C_dadd cuts_rdig Tryd.f16.results.toList 1 400 [.code (codeOf Tryd.f16)] ⟨argsS Tryd.f16 [.c (.slc 0 0 (List.length l) l_t)], ([.inp 1 l] : Heap cod)⟩ =
.ret (.cut (cutAt Tryd.f16 4) ⟨tmG 17 [(3, .c (.ptr 1 0 0)), (0, .c (.fn 36 [(1, 0, 0)])), (3, .c (.slc 0 0 (List.length l) l_t)), (0, .c (.int .i64 (Int.ofNat (List.length l)))), (0, .c (.int .i64 0))], [.inp 1 l, .blk [.int .u64 14695981039346656037] 30]⟩) := by kernel_rfl


noncomputable def st_rdig_4 (l : List (List UInt8 × List UInt8)) (l_t : Bool) (i h : Int) : St cod := ⟨tmG 17 [(3, .c (.ptr 1 0 0)), (0, .c (.fn 36 [(1, 0, 0)])), (3, .c (.slc 0 0 (List.length l) l_t)), (0, .c (.int .i64 (Int.ofNat (List.length l)))), (0, .c (.int .i64 i))], ([.inp 1 l, .blk [.int .u64 h] 30] : Heap cod)⟩


theorem rdig_t4 (l : List (List UInt8 × List UInt8)) (l_t : Bool) (i h : Int) : symF C_dadd cuts_rdig Tryd.f16.results.toList 1 400 (cutAt Tryd.f16 4) (st_rdig_4 l l_t i h) =
 cond (decide (i < Int.ofNat (List.length l))) (
 .need (((0 : Int) ≤ i ∧ i < Int.ofNat (List.length l))) (
 .need (0 + Int.toNat i < List.length l) (
 .need (List.length (List.getD l (0 + Int.toNat i) (cod 1).d).1 ≤ 1000000000000000) (
 .need ((1 : Nat) ≤ 1000000000000000) (
 .need (List.length (List.getD l (0 + Int.toNat i) (cod 1).d).2 ≤ 1000000000000000) (
 .need ((1 : Nat) ≤ 1000000000000000) (
 .need (i64ok (i + 1)) (
 .ret (.cut (cutAt Tryd.f16 4) ⟨tmG 17 [(3, .c (.ptr 1 0 0)), (0, .c (.fn 36 [(1, 0, 0)])), (3, .c (.slc 0 0 (List.length l) l_t)), (0, .c (.int .i64 (Int.ofNat (List.length l)))), (0, .c (.int .i64 (i + 1)))], [.inp 1 l, .blk [.int .u64 (F.dgs   (F.dgs (F.dgs (F.dgs h (List.getD l (0 + Int.toNat i) (cod 1).d).1) [61]) (List.getD l (0 + Int.toNat i) (cod 1).d).2)   [10])] 30]⟩))))))))) (
 .ret (.fin (.c (.int .u64 h)) [])) := by kernel_rfl



theorem rdig_run (l : List (List UInt8 × List UInt8)) (l_t : Bool) (b0 : Base) (hb : b0.n = 1) (h0 : F.short l) (h1 : l.length ≤ 1000000) : Sym.Runs Tryd.prog b0 [.code (codeOf Tryd.f16)] ⟨argsS Tryd.f16 [.c (.slc 0 0 (List.length l) l_t)], ([.inp 1 l] : Heap cod)⟩ (Sym.Ends Tryd.prog Tryd.f16 1 (.c (.int .u64 (F.digest l))) []) := by
  have e0 : ∀ k, List.getD l k (cod 1).d = List.getD l k F.r0 := fun _ => rfl
  have ap : ∀ h a b, F.dgs h (a ++ b) = F.dgs (F.dgs h a) b := fun h a b => List.foldl_append ..
  have key : ∀ (m j : Nat) (h : Int), j + m = l.length → F.digest l = F.dgs h (F.lines (l.drop j)) →
      Sym.Runs Tryd.prog b0 (cutAt Tryd.f16 4) (st_rdig_4 l l_t (j : Int) h) (Sym.Ends Tryd.prog Tryd.f16 1 (.c (.int .u64 (F.digest l))) []) := by
    intro m
    induction m with
    | zero =>
      intro j h hm hl
      refine Runs.go (cfg := C_dadd) L_dadd_ok mixed cuts_rdig 400 hb (rdig_t4 l l_t (j : Int) h) ?_
      rw [List.drop_of_length_le (by omega)] at hl
      simp only [T.wp, T.wp_cond, Aft, Int.ofNat_eq_natCast, decide_eq_true_eq, and_true, true_and, Nat.zero_add, Bool.not_eq_true', decide_eq_false_iff_not]
      refine ite_no (by omega) ?_
      rw [hl]; rfl
    | succ m ih =>
      intro j h hm hl
      refine Runs.go (cfg := C_dadd) L_dadd_ok mixed cuts_rdig 400 hb (rdig_t4 l l_t (j : Int) h) ?_
      have hj : j < l.length := by omega
      have hs := h0 _ (mem_gd hj)
      rw [drop_gd hj, show ∀ r q, F.lines (r :: q) = r.1 ++ [61] ++ r.2 ++ [10] ++ F.lines q from fun _ _ => rfl, ap, ap, ap, ap] at hl
      have nx := ih (j + 1) _ (by omega) hl
      simp only [T.wp, T.wp_cond, Aft, Int.ofNat_eq_natCast, decide_eq_true_eq, and_true, true_and, Nat.zero_add, Bool.not_eq_true', decide_eq_false_iff_not, Int.toNat_natCast, e0]
      exact ite_yes (by omega) ⟨⟨by omega, by omega⟩, hj, hs.1, by decide, hs.2, by decide, by unfold i64ok; omega, nx⟩
  refine Runs.go (cfg := C_dadd) L_dadd_ok mixed cuts_rdig 400 hb (rdig_t0 l l_t) ?_
  simp only [T.wp, T.wp_cond, Aft, Int.ofNat_eq_natCast, decide_eq_true_eq, and_true, true_and, Nat.zero_add, Bool.not_eq_true', decide_eq_false_iff_not]
  exact key l.length 0 _ (by omega) rfl



noncomputable def s_rdig : Summ cod := fun args H => match args, H with
  | [.c (.slc 0 l_i l_n l_t)], [o0] => (match o0.asInp 1 with | some l => .need ((l_i = 0 ∧ l_n = List.length l) ∧ (F.short l) ∧ (l.length ≤ 1000000)) (.ret (.c (.int .u64 (F.digest l)), [])) | none => .fail)
  | _, _ => .fail


theorem rdig_sound : Sound Tryd.prog cod 16 s_rdig := sound_runs (cfg := C_dadd) L_dadd_ok mixed Tryd.func16 rfl rfl _ fun args H r news hg b0 hb => by
  unfold s_rdig at hg
  split at hg
  · skip
    split at hg
    · rename_i l hx0
      cases asInp_spec hx0
      simp only [T.gives, T.wp, Prod.mk.injEq] at hg
      obtain ⟨⟨⟨rfl, rfl⟩, q1, q2⟩, rfl, rfl⟩ := hg
      exact rdig_run _ _ b0 hb (by assumption) (by assumption)
    · exact hg.elim
  · exact hg.elim

noncomputable def L_rdig : Sums cod := (16, .p s_rdig) :: L_dadd
noncomputable def C_rdig : Cfg cod := mkC L_rdig

theorem L_rdig_ok : Snd Tryd.prog cod L_rdig := .cons rdig_sound L_dadd_ok



def cuts_with : Cuts := [(4, [2, 1, 9, 10, 15, 16, 17], 3)]

theorem with_t0 (l : List (List UInt8 × List UInt8)) (l_t : Bool) (k : List UInt8) (v : List UInt8) (has : Bool) : symF C_rdig cuts_with Tryd.f18.results.toList 1 400 [.code (codeOf Tryd.f18)] ⟨argsS Tryd.f18 [.c (.slc 0 0 (List.length l) l_t), .c (.str k), .c (.str v), .c (.bool has)], ([.inp 1 l] : Heap cod)⟩ =
.ret (.cut (cutAt Tryd.f18 4) ⟨tmG 35 [(1, .c (.str k)), (0, .c (.str v)), (6, .c (.own 2 0)), (0, .c (.bool !has)), (4, .c (.slc 0 0 (List.length l) l_t)), (0, .c (.int .i64 (Int.ofNat (List.length l)))), (0, .c (.int .i64 0))], [.inp 1 l, .own 1 [] 50, .own 1 [] 50]⟩) := by kernel_rfl


noncomputable def st_with_4 (l : List (List UInt8 × List UInt8)) (l_t : Bool) (k : List UInt8) (v : List UInt8) (has : Bool) (i : Int) (d : Bool) (on : Nat) (o : List (List UInt8 × List UInt8)) : St cod := ⟨tmG 35 [(1, .c (.str k)), (0, .c (.str v)), (6, .c (.own 2 on)), (0, .c (.bool d)), (4, .c (.slc 0 0 (List.length l) l_t)), (0, .c (.int .i64 (Int.ofNat (List.length l)))), (0, .c (.int .i64 i))], ([.inp 1 l, .own 1 [] 50, .own 1 o 50] : Heap cod)⟩


theorem with_t4 (l : List (List UInt8 × List UInt8)) (l_t : Bool) (k : List UInt8) (v : List UInt8) (has : Bool) (i : Int) (d : Bool) (on : Nat) (o : List (List UInt8 × List UInt8)) : symF C_rdig cuts_with Tryd.f18.results.toList 1 400 (cutAt Tryd.f18 4) (st_with_4 l l_t k v has i d on o) =
 cond (decide (i < Int.ofNat (List.length l))) (
 .need (((0 : Int) ≤ i ∧ i < Int.ofNat (List.length l))) (
 .need (0 + Int.toNat i < List.length l) (
 cond (decide ((List.getD l (0 + Int.toNat i) (cod 1).d).1 = k)) (
  .need (i64ok (i + 1)) (
  .ret (.cut (cutAt Tryd.f18 4) ⟨tmG 35 [(1, .c (.str k)), (0, .c (.str v)), (6, .c (.own 2 (on))), (0, .c (.bool d)), (4, .c (.slc 0 0 (List.length l) l_t)), (0, .c (.int .i64 (Int.ofNat (List.length l)))), (0, .c (.int .i64 (i + 1)))], [.inp 1 l, .own 1 [] 50, .own 1 o 50]⟩))) (
  cond (!d) (
   cond (Op.bytesLess k (List.getD l (0 + Int.toNat i) (cod 1).d).1) (
    .need (1 = 1) (
    .need (on + 1 ≤ 1000000) (
    .need (1 = 1) (
    .need (on + 1 + 1 ≤ 1000000) (
    .need (i64ok (i + 1)) (
    .ret (.cut (cutAt Tryd.f18 4) ⟨tmG 35 [(1, .c (.str k)), (0, .c (.str v)), (6, .c (.own 2 (on + 1 + 1))), (0, .c (.bool true)), (4, .c (.slc 0 0 (List.length l) l_t)), (0, .c (.int .i64 (Int.ofNat (List.length l)))), (0, .c (.int .i64 (i + 1)))], [.inp 1 l, .own 1 [] 50, .own 1 ((o ++ ([(k, v)])) ++ ([((List.getD l (0 + Int.toNat i) (cod 1).d).1, (List.getD l (0 + Int.toNat i) (cod 1).d).2)])) 50]⟩))))))) (
    .need (1 = 1) (
    .need (on + 1 ≤ 1000000) (
    .need (i64ok (i + 1)) (
    .ret (.cut (cutAt Tryd.f18 4) ⟨tmG 35 [(1, .c (.str k)), (0, .c (.str v)), (6, .c (.own 2 (on + 1))), (0, .c (.bool d)), (4, .c (.slc 0 0 (List.length l) l_t)), (0, .c (.int .i64 (Int.ofNat (List.length l)))), (0, .c (.int .i64 (i + 1)))], [.inp 1 l, .own 1 [] 50, .own 1 (o ++ ([((List.getD l (0 + Int.toNat i) (cod 1).d).1, (List.getD l (0 + Int.toNat i) (cod 1).d).2)])) 50]⟩)))))) (
   .need (1 = 1) (
   .need (on + 1 ≤ 1000000) (
   .need (i64ok (i + 1)) (
   .ret (.cut (cutAt Tryd.f18 4) ⟨tmG 35 [(1, .c (.str k)), (0, .c (.str v)), (6, .c (.own 2 (on + 1))), (0, .c (.bool d)), (4, .c (.slc 0 0 (List.length l) l_t)), (0, .c (.int .i64 (Int.ofNat (List.length l)))), (0, .c (.int .i64 (i + 1)))], [.inp 1 l, .own 1 [] 50, .own 1 (o ++ ([((List.getD l (0 + Int.toNat i) (cod 1).d).1, (List.getD l (0 + Int.toNat i) (cod 1).d).2)])) 50]⟩))))))))) (
 cond (!d) (
  .need (1 = 1) (
  .need (on + 1 ≤ 1000000) (
  .ret (.fin (.c (.own 1 (on + 1))) [.own 1 (o ++ ([(k, v)])) 50])))) (
  .ret (.fin (.c (.own 1 (on))) [.own 1 o 50]))) := by kernel_rfl



theorem with_run (l : List (List UInt8 × List UInt8)) (l_t : Bool) (k : List UInt8) (v : List UInt8) (has : Bool) (b0 : Base) (hb : b0.n = 1) (h0 : l.length ≤ 100000) : Sym.Runs Tryd.prog b0 [.code (codeOf Tryd.f18)] ⟨argsS Tryd.f18 [.c (.slc 0 0 (List.length l) l_t), .c (.str k), .c (.str v), .c (.bool has)], ([.inp 1 l] : Heap cod)⟩ (Sym.Ends Tryd.prog Tryd.f18 1 (.c (.own 1 (List.length (F.wth k v (!has) l)))) [.own 1 (F.wth k v (!has) l) 50]) := by
  have e0 : ∀ k, List.getD l k (cod 1).d = List.getD l k F.r0 := fun _ => rfl
  have key : ∀ (m j : Nat) (d : Bool) (on : Nat) (o : List (List UInt8 × List UInt8)), j + m = l.length → on = o.length → on ≤ 2 * j → F.wth k v (!has) l = o ++ F.wth k v d (l.drop j) →
      Sym.Runs Tryd.prog b0 (cutAt Tryd.f18 4) (st_with_4 l l_t k v has (j : Int) d on o) (Sym.Ends Tryd.prog Tryd.f18 1 (.c (.own 1 (List.length (F.wth k v (!has) l)))) [.own 1 (F.wth k v (!has) l) 50]) := by
    intro m
    induction m with
    | zero =>
      intro j d on o hm ho hb2 hl
      refine Runs.go (cfg := C_rdig) L_rdig_ok mixed cuts_with 400 hb (with_t4 l l_t k v has (j : Int) d on o) ?_
      rw [List.drop_of_length_le (by omega)] at hl
      simp only [T.wp, T.wp_cond, Aft, Int.ofNat_eq_natCast, decide_eq_true_eq, and_true, true_and, Nat.zero_add, Bool.not_eq_true', decide_eq_false_iff_not]
      refine ite_no (by omega) ?_
      cases d with
      | true =>
        refine ite_no (by simp) ?_
        rw [hl, ho]
        exact ⟨by rw [List.length_append]; rfl, by rw [show F.wth k v true [] = [] from rfl, List.append_nil]⟩
      | false =>
        refine ite_yes rfl ⟨by omega, ?_⟩
        rw [hl, ho]
        exact ⟨by rw [List.length_append]; rfl, rfl⟩
    | succ m ih =>
      intro j d on o hm ho hb2 hl
      refine Runs.go (cfg := C_rdig) L_rdig_ok mixed cuts_with 400 hb (with_t4 l l_t k v has (j : Int) d on o) ?_
      have hj : j < l.length := by omega
      have hw : ∀ d (r : F.Row) q, F.wth k v d (r :: q) = if r.1 = k then F.wth k v d q else if d = false ∧ F.lt k r.1 = true then (k, v) :: r :: F.wth k v true q else r :: F.wth k v d q := fun d r q => by cases d <;> rfl
      rw [drop_gd hj, hw] at hl
      have nx := ih (j + 1)
      simp only [T.wp, T.wp_cond, Aft, Int.ofNat_eq_natCast, decide_eq_true_eq, and_true, true_and, Nat.zero_add, Bool.not_eq_true', decide_eq_false_iff_not, Int.toNat_natCast, e0]
      generalize l.getD j F.r0 = r at *
      have fin : ∀ d, F.wth k v (!has) l = o ++ (r :: F.wth k v d (l.drop (j + 1))) → Sym.Runs Tryd.prog b0 (cutAt Tryd.f18 4) (st_with_4 l l_t k v has ((j + 1 : Nat) : Int) d (on + 1) (o ++ [r])) (Sym.Ends Tryd.prog Tryd.f18 1 (.c (.own 1 (List.length (F.wth k v (!has) l)))) [.own 1 (F.wth k v (!has) l) 50]) :=
        fun d h => nx d (on + 1) (o ++ [r]) (by omega) (by rw [ho, List.length_append]; rfl) (by omega) (by rw [h, List.append_assoc]; rfl)
      refine ite_yes (by omega) ⟨⟨by omega, by omega⟩, hj, ?_⟩
      by_cases c : r.1 = k
      · rw [if_pos c] at hl
        exact ite_yes c ⟨by unfold i64ok; omega, nx d on o (by omega) ho (by omega) hl⟩
      · rw [if_neg c] at hl
        refine ite_no c ?_
        cases d with
        | true =>
          rw [if_neg (by simp)] at hl
          exact ite_no (by simp) ⟨by omega, by unfold i64ok; omega, fin true hl⟩
        | false =>
          refine ite_yes rfl ?_
          cases q : F.lt k r.1 with
          | false =>
            rw [if_neg (by simp [q])] at hl
            exact ite_no (c := F.lt k r.1 = true) (by rw [q]; decide) ⟨by omega, by unfold i64ok; omega, fin false hl⟩
          | true =>
            rw [if_pos ⟨rfl, q⟩] at hl
            have n2 := nx true (on + 1 + 1) (o ++ [(k, v)] ++ [r]) (by omega) (by rw [ho, List.length_append, List.length_append]; rfl) (by omega) (by rw [hl, List.append_assoc, List.append_assoc]; rfl)
            exact ite_yes (c := F.lt k r.1 = true) q ⟨by omega, by omega, by unfold i64ok; omega, n2⟩
  refine Runs.go (cfg := C_rdig) L_rdig_ok mixed cuts_with 400 hb (with_t0 l l_t k v has) ?_
  simp only [T.wp, T.wp_cond, Aft, Int.ofNat_eq_natCast, decide_eq_true_eq, and_true, true_and, Nat.zero_add, Bool.not_eq_true', decide_eq_false_iff_not]
  exact key l.length 0 _ 0 [] (by omega) rfl (by omega) rfl



noncomputable def s_with : Summ cod := fun args H => match args, H with
  | [.c (.slc 0 l_i l_n l_t), .c (.str k), .c (.str v), .c (.bool has)], [o0] => (match o0.asInp 1 with | some l => .need ((l_i = 0 ∧ l_n = List.length l) ∧ (l.length ≤ 100000)) (.ret (.c (.own 1 (List.length (F.wth k v (!has) l))), [.own 1 (F.wth k v (!has) l) 50])) | none => .fail)
  | _, _ => .fail


theorem with_sound : Sound Tryd.prog cod 18 s_with := sound_runs (cfg := C_rdig) L_rdig_ok mixed Tryd.func18 rfl rfl _ fun args H r news hg b0 hb => by
  unfold s_with at hg
  split at hg
  · skip
    split at hg
    · rename_i l hx0
      cases asInp_spec hx0
      simp only [T.gives, T.wp, Prod.mk.injEq] at hg
      obtain ⟨⟨⟨rfl, rfl⟩, q1⟩, rfl, rfl⟩ := hg
      exact with_run _ _ _ _ _ b0 hb (by assumption)
    · exact hg.elim
  · exact hg.elim

noncomputable def L_with : Sums cod := (18, .p s_with) :: L_rdig
noncomputable def C_with : Cfg cod := mkC L_with

theorem L_with_ok : Snd Tryd.prog cod L_with := .cons with_sound L_rdig_ok


end
end Go.Proofs.YtoflfgcdagoobaaDoor
