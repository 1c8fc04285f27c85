/- Part of a claim: lemmas on the way to its theorem; each states its own conditions. -/
import Derived.Test.YtgmnfdmlidhbcaaKf
import Derived.Test.YtgmnfdmlidhbcaaSym30
namespace Go.Proofs.Ytgmnfdmlidhbcaa
open Sym Go.RowKit
noncomputable section
set_option maxRecDepth 100000
set_option maxHeartbeats 4000000



namespace F
def bH (x : List (List Bool)) (i : Nat) (b : List Int) : Nat → List Int
  | 0 => b
  | h + 1 => if (x.getD h []).getD i false then (if (bH x i b h).getD i 0 < (bH x i b h).getD h 0 + 1 then (bH x i b h).set i ((bH x i b h).getD h 0 + 1) else bH x i b h) else bH x i b h
def bO (x : List (List Bool)) (k : Nat) : Nat → List Int
  | 0 => List.replicate (k + 1) 0
  | i + 1 => bH x i ((bO x k i).set i 1) i
def sqM (x : List (List Bool)) : Prop := ∀ j, j < x.length → (x.getD j []).length = x.length
def rlam (x : List (List Bool)) (k : Nat) : Int := (bO x k (k + 1)).getD k 0
end F


def cuts_rlam : Cuts := [(3, [5, 0, 1, 12, 13], 2), (7, [5, 6, 0, 1, 12, 13, 19, 20], 2), (100009, [5, 6, 0, 1, 12, 13, 19, 20, 7], 3), (100011, [5, 6, 0, 1, 12, 13, 19, 20], 3)]
def cuts_rlam_r9 : Cuts := [(3, [5, 0, 1, 12, 13], 2), (7, [5, 6, 0, 1, 12, 13, 19, 20], 2), (100011, [5, 6, 0, 1, 12, 13, 19, 20], 3)]
def cuts_rlam_r9b : Cuts := [(3, [5, 0, 1, 12, 13], 2), (7, [5, 6, 0, 1, 12, 13, 19, 20], 2), (100011, [5, 6, 0, 1, 12, 13, 19, 20], 3)]
def cuts_rlam_r11 : Cuts := [(3, [5, 0, 1, 12, 13], 2), (7, [5, 6, 0, 1, 12, 13, 19, 20], 2), (100009, [5, 6, 0, 1, 12, 13, 19, 20, 7], 3)]

theorem rlam_t0 (x : List (List Bool)) (x_t : Bool) (k : Int) : symF C_lea cuts_rlam Try.f13.results.toList 1 400 [.code (codeOf Try.f13)] ⟨argsS Try.f13 [.c (.slc 0 0 (List.length x) x_t), .c (.int .i64 k)], ([.nin 4 x none] : Heap cod)⟩ =
.need (i64ok (k + 1)) (
.need (((0 : Int) ≤ k + 1 ∧ (k + 1 ≤ 1000000 ∧ k + 1 = k + 1))) (
.need (i64ok (k + 1)) (
.ret (.cut (cutAt Try.f13 3) ⟨tmG 42 [(0, .c (.slc 0 0 (List.length x) x_t)), (0, .c (.int .i64 k)), (3, .c (.slc 1 0 (Int.toNat (k + 1)) true)), (6, .c (.int .i64 (k + 1))), (0, .c (.int .i64 0))], [.nin 4 (x) none, .arr 0 (List.replicate (Int.toNat (k + 1)) (0 : Int)) 3]⟩)))) := by kernel_rfl


noncomputable def st_rlam_3 (x : List (List Bool)) (x_t : Bool) (k : Int) (i : Int) (b : List Int) (n : Nat) : St cod := ⟨tmG 42 [(0, .c (.slc 0 0 (List.length x) x_t)), (0, .c (.int .i64 k)), (3, .c (.slc 1 0 n true)), (6, .c (.int .i64 (k + 1))), (0, .c (.int .i64 i))], ([.nin 4 x none, .arr 0 b 3] : Heap cod)⟩


theorem rlam_t3 (x : List (List Bool)) (x_t : Bool) (k : Int) (i : Int) (b : List Int) (n : Nat) : symF C_lea cuts_rlam Try.f13.results.toList 1 400 (cutAt Try.f13 3) (st_rlam_3 x x_t k i b n) =
 cond (decide (i < k + 1)) (
 .need (((0 : Int) ≤ i ∧ i < Int.ofNat n)) (
 .need (0 + Int.toNat i < List.length b) (
 .ret (.cut (cutAt Try.f13 7) ⟨tmG 35 [(0, .c (.slc 0 0 (List.length x) x_t)), (0, .c (.int .i64 k)), (3, .c (.slc 1 0 (n) true)), (0, .c (.int .i64 i)), (5, .c (.int .i64 (k + 1))), (0, .c (.int .i64 i)), (5, .c (.int .i64 i)), (0, .c (.int .i64 0))], [.nin 4 (x) none, .arr 0 (List.set b (0 + Int.toNat i) (1 : Int)) 3]⟩)))) (
 .need (((0 : Int) ≤ k ∧ k < Int.ofNat n)) (
 .need (0 + Int.toNat k < List.length b) (
 .ret (.fin (.c (.int .i64 (List.getD b (0 + Int.toNat k) (cod 0).d))) [])))) := by kernel_rfl


noncomputable def st_rlam_7 (x : List (List Bool)) (x_t : Bool) (k : Int) (i h : Int) (b : List Int) (n : Nat) : St cod := ⟨tmG 35 [(0, .c (.slc 0 0 (List.length x) x_t)), (0, .c (.int .i64 k)), (3, .c (.slc 1 0 n true)), (0, .c (.int .i64 i)), (5, .c (.int .i64 (k + 1))), (0, .c (.int .i64 i)), (5, .c (.int .i64 i)), (0, .c (.int .i64 h))], ([.nin 4 x none, .arr 0 b 3] : Heap cod)⟩


theorem rlam_t7 (x : List (List Bool)) (x_t : Bool) (k : Int) (i h : Int) (b : List Int) (n : Nat) : symF C_lea cuts_rlam Try.f13.results.toList 1 400 (cutAt Try.f13 7) (st_rlam_7 x x_t k i h b n) =
 cond (decide (h < i)) (
 .ret (.cut (regAt Try.f13 9) ⟨tmG 35 [(0, .c (.slc 0 0 (List.length x) x_t)), (0, .c (.int .i64 k)), (3, .c (.slc 1 0 (n) true)), (0, .c (.int .i64 i)), (0, .c (.int .i64 h)), (4, .c (.int .i64 (k + 1))), (0, .c (.int .i64 i)), (5, .c (.int .i64 i)), (0, .c (.int .i64 h))], [.nin 4 (x) none, .arr 0 b 3]⟩)) (
 .need (i64ok (i + 1)) (
 .ret (.cut (cutAt Try.f13 3) ⟨tmG 42 [(0, .c (.slc 0 0 (List.length x) x_t)), (0, .c (.int .i64 k)), (3, .c (.slc 1 0 (n) true)), (6, .c (.int .i64 (k + 1))), (0, .c (.int .i64 (i + 1)))], [.nin 4 (x) none, .arr 0 b 3]⟩))) := by kernel_rfl


noncomputable def st_rlam_r9 (x : List (List Bool)) (x_t : Bool) (k : Int) (i h : Int) (b : List Int) (n : Nat) : St cod := ⟨tmG 35 [(0, .c (.slc 0 0 (List.length x) x_t)), (0, .c (.int .i64 k)), (3, .c (.slc 1 0 n true)), (0, .c (.int .i64 i)), (0, .c (.int .i64 h)), (4, .c (.int .i64 (k + 1))), (0, .c (.int .i64 i)), (5, .c (.int .i64 i)), (0, .c (.int .i64 h))], ([.nin 4 x none, .arr 0 b 3] : Heap cod)⟩


noncomputable def st_rlam_r9b (x : List (List Bool)) (x_t : Bool) (k : Int) (i h : Int) (b : List Int) (n : Nat) (j : Nat) (r : List Bool) : St cod := ⟨tmG 35 [(0, .c (.slc 0 0 (List.length x) x_t)), (0, .c (.int .i64 k)), (3, .c (.slc 1 0 (n) true)), (0, .c (.int .i64 i)), (0, .c (.int .i64 h)), (4, .c (.int .i64 (k + 1))), (0, .c (.int .i64 i)), (5, .c (.int .i64 i)), (0, .c (.int .i64 h))], ([.nin 4 x (some (j, .slc 2 0 (List.length r) false)), .arr 0 b 3, .inp 4 r] : Heap cod)⟩


theorem rlam_tr9b (x : List (List Bool)) (x_t : Bool) (k : Int) (i h : Int) (b : List Int) (n : Nat) (j : Nat) (r : List Bool) : symF C_lea cuts_rlam_r9b Try.f13.results.toList 1 400 (regAt Try.f13 9) (st_rlam_r9b x x_t k i h b n j r) =
.need (((0 : Int) ≤ h ∧ h < Int.ofNat (List.length x))) (
.need ((0 + Int.toNat h = j ∧ j < List.length x)) (
.need (((0 : Int) ≤ i ∧ i < Int.ofNat (List.length r))) (
.need (0 + Int.toNat i < List.length r) (
 cond (List.getD r (0 + Int.toNat i) (cod 4).d) (
 .need (((0 : Int) ≤ h ∧ h < Int.ofNat n)) (
 .need (0 + Int.toNat h < List.length b) (
 .need (i64ok (List.getD b (0 + Int.toNat h) (cod 0).d + 1)) (
 .need (((0 : Int) ≤ i ∧ i < Int.ofNat n)) (
 .need (0 + Int.toNat i < List.length b) (
 cond (decide (List.getD b (0 + Int.toNat i) (cod 0).d < List.getD b (0 + Int.toNat h) (cod 0).d + 1)) (
  .need (((0 : Int) ≤ h ∧ h < Int.ofNat n)) (
  .need (0 + Int.toNat h < List.length b) (
  .need (i64ok (List.getD b (0 + Int.toNat h) (cod 0).d + 1)) (
  .need (((0 : Int) ≤ i ∧ i < Int.ofNat n)) (
  .need (0 + Int.toNat i < List.length b) (
  .ret (.cut (regAt Try.f13 11) ⟨tmG 35 [(0, .c (.slc 0 0 (List.length x) x_t)), (0, .c (.int .i64 k)), (3, .c (.slc 1 0 (n) true)), (0, .c (.int .i64 i)), (5, .c (.int .i64 (k + 1))), (0, .c (.int .i64 i)), (5, .c (.int .i64 i)), (0, .c (.int .i64 h))], [.nin 4 (x) (some ((j), .slc 2 0 (List.length r) false)), .arr 0 (List.set b (0 + Int.toNat i) (List.getD b (0 + Int.toNat h) (cod 0).d + 1)) 3, .inp 4 r]⟩))))))) (
  .ret (.cut (regAt Try.f13 11) ⟨tmG 35 [(0, .c (.slc 0 0 (List.length x) x_t)), (0, .c (.int .i64 k)), (3, .c (.slc 1 0 (n) true)), (0, .c (.int .i64 i)), (5, .c (.int .i64 (k + 1))), (0, .c (.int .i64 i)), (5, .c (.int .i64 i)), (0, .c (.int .i64 h))], [.nin 4 (x) (some ((j), .slc 2 0 (List.length r) false)), .arr 0 b 3, .inp 4 r]⟩)))))))) (
 .ret (.cut (regAt Try.f13 11) ⟨tmG 35 [(0, .c (.slc 0 0 (List.length x) x_t)), (0, .c (.int .i64 k)), (3, .c (.slc 1 0 (n) true)), (0, .c (.int .i64 i)), (5, .c (.int .i64 (k + 1))), (0, .c (.int .i64 i)), (5, .c (.int .i64 i)), (0, .c (.int .i64 h))], [.nin 4 (x) (some ((j), .slc 2 0 (List.length r) false)), .arr 0 b 3, .inp 4 r]⟩)))))) := by kernel_rfl


noncomputable def st_rlam_r11 (x : List (List Bool)) (x_t : Bool) (k : Int) (i h : Int) (b : List Int) (n : Nat) : St cod := ⟨tmG 35 [(0, .c (.slc 0 0 (List.length x) x_t)), (0, .c (.int .i64 k)), (3, .c (.slc 1 0 n true)), (0, .c (.int .i64 i)), (5, .c (.int .i64 (k + 1))), (0, .c (.int .i64 i)), (5, .c (.int .i64 i)), (0, .c (.int .i64 h))], ([.nin 4 x none, .arr 0 b 3] : Heap cod)⟩


theorem rlam_tr11 (x : List (List Bool)) (x_t : Bool) (k : Int) (i h : Int) (b : List Int) (n : Nat) : symF C_lea cuts_rlam_r11 Try.f13.results.toList 1 400 (regAt Try.f13 11) (st_rlam_r11 x x_t k i h b n) =
.need (i64ok (h + 1)) (
.ret (.cut (cutAt Try.f13 7) ⟨tmG 35 [(0, .c (.slc 0 0 (List.length x) x_t)), (0, .c (.int .i64 k)), (3, .c (.slc 1 0 (n) true)), (0, .c (.int .i64 i)), (5, .c (.int .i64 (k + 1))), (0, .c (.int .i64 i)), (5, .c (.int .i64 i)), (0, .c (.int .i64 (h + 1)))], [.nin 4 (x) none, .arr 0 b 3]⟩)) := by kernel_rfl



namespace F
theorem bH_len (x : List (List Bool)) (i : Nat) (b : List Int) : ∀ h, (bH x i b h).length = b.length
  | 0 => rfl
  | h + 1 => by
      unfold bH
      split
      · split
        · rw [List.length_set, bH_len x i b h]
        · exact bH_len x i b h
      · exact bH_len x i b h
theorem bH_bound (x : List (List Bool)) (i : Nat) (b : List Int) (hb : ∀ j : Nat, 0 ≤ b.getD j 0 ∧ b.getD j 0 ≤ (j : Int) + 1) : ∀ h, h ≤ i → ∀ j : Nat, 0 ≤ (bH x i b h).getD j 0 ∧ (bH x i b h).getD j 0 ≤ (j : Int) + 1
  | 0, _, j => hb j
  | h + 1, hi, j => by
      have a := bH_bound x i b hb h (by omega) j
      have c := bH_bound x i b hb h (by omega) h
      unfold bH
      split
      · split
        · rw [gset]
          split
          · omega
          · exact a
        · exact a
      · exact a
theorem bO_len (x : List (List Bool)) (k : Nat) : ∀ i, (bO x k i).length = k + 1
  | 0 => List.length_replicate
  | i + 1 => by unfold bO; rw [bH_len, List.length_set, bO_len x k i]
theorem bS_bound (b : List Int) (i : Nat) (hb : ∀ j : Nat, 0 ≤ b.getD j 0 ∧ b.getD j 0 ≤ (j : Int) + 1) : ∀ j : Nat, 0 ≤ (b.set i 1).getD j 0 ∧ (b.set i 1).getD j 0 ≤ (j : Int) + 1 := fun j => by
  have := hb j
  rw [gset]
  split <;> omega
theorem bO_bound (x : List (List Bool)) (k : Nat) : ∀ i, ∀ j : Nat, 0 ≤ (bO x k i).getD j 0 ∧ (bO x k i).getD j 0 ≤ (j : Int) + 1
  | 0, j => by
      have e : (bO x k 0).getD j 0 = 0 := by
        show (List.replicate (k + 1) (0 : Int)).getD j 0 = 0
        rw [List.getD_eq_getElem?_getD, List.getElem?_replicate]
        split <;> rfl
      rw [e]
      omega
  | i + 1, j => bH_bound x i _ (bS_bound _ i (bO_bound x k i)) i (Nat.le_refl _) j
end F
theorem rlam_run (x : List (List Bool)) (x_t : Bool) (k : Int) (b0 : Base) (hb : b0.n = 1) (h0 : 0 ≤ k) (h1 : k < x.length) (h2 : x.length ≤ 200) (h3 : F.sqM x) : Sym.Runs Try.prog b0 [.code (codeOf Try.f13)] ⟨argsS Try.f13 [.c (.slc 0 0 (List.length x) x_t), .c (.int .i64 k)], ([.nin 4 x none] : Heap cod)⟩ (Sym.Ends Try.prog Try.f13 1 (.c (.int .i64 (F.rlam x k.toNat))) []) := by
  obtain ⟨K, rfl⟩ := Int.eq_ofNat_of_zero_le h0
  have hK : K < x.length := by omega
  have ez : (cod 0).d = (0 : Int) := rfl
  have eb : (cod 4).d = false := rfl
  have eK : Int.toNat ((K : Int) + 1) = K + 1 := rfl
  rw [Int.toNat_natCast]
  have key : ∀ (r i : Nat), i + r = K + 1 → Sym.Runs Try.prog b0 (cutAt Try.f13 3) (st_rlam_3 x x_t (K : Int) (i : Int) (F.bO x K i) (K + 1)) (Sym.Ends Try.prog Try.f13 1 (.c (.int .i64 (F.rlam x K))) []) := by
    intro r
    induction r with
    | zero =>
      intro i hi
      have ei : i = K + 1 := by omega
      subst ei
      have hl := F.bO_len x K (K + 1)
      refine Runs.go (cfg := C_lea) L_lea_ok mixed cuts_rlam 400 hb (rlam_t3 x x_t (K : Int) ((K + 1 : Nat) : Int) (F.bO x K (K + 1)) (K + 1)) ?_
      simp only [T.wp, T.wp_cond, Aft, Int.ofNat_eq_natCast, decide_eq_true_eq, and_true, true_and, Nat.zero_add, Bool.not_eq_true', decide_eq_false_iff_not, Nat.zero_add, Int.toNat_natCast, ez]
      refine ite_no (by omega) ⟨⟨by omega, by omega⟩, by omega, ?_⟩
      rfl
    | succ r ih =>
      intro i hi
      have nx := ih (i + 1) (by omega)
      have hl := F.bO_len x K i
      have hb2 := F.bS_bound (F.bO x K i) i (F.bO_bound x K i)
      have e1 : F.bO x K (i + 1) = F.bH x i ((F.bO x K i).set i 1) i := rfl
      rw [e1] at nx
      refine Runs.go (cfg := C_lea) L_lea_ok mixed cuts_rlam 400 hb (rlam_t3 x x_t (K : Int) (i : Int) (F.bO x K i) (K + 1)) ?_
      have hB : ((F.bO x K i).set i 1).length = K + 1 := by rw [List.length_set, hl]
      simp only [T.wp, T.wp_cond, Aft, Int.ofNat_eq_natCast, decide_eq_true_eq, and_true, true_and, Nat.zero_add, Bool.not_eq_true', decide_eq_false_iff_not, Nat.zero_add, Int.toNat_natCast]
      refine ite_yes (by omega) ⟨⟨by omega, by omega⟩, by omega, ?_⟩
      have inner : ∀ (q h : Nat), h + q = i → Sym.Runs Try.prog b0 (cutAt Try.f13 7) (st_rlam_7 x x_t (K : Int) (i : Int) (h : Int) (F.bH x i ((F.bO x K i).set i 1) h) (K + 1)) (Sym.Ends Try.prog Try.f13 1 (.c (.int .i64 (F.rlam x K))) []) := by
        intro q
        generalize (F.bO x K i).set i 1 = B at *
        induction q with
        | zero =>
          intro h hh
          have eh : h = i := by omega
          subst eh
          refine Runs.go (cfg := C_lea) L_lea_ok mixed cuts_rlam 400 hb (rlam_t7 x x_t (K : Int) (h : Int) (h : Int) (F.bH x h B h) (K + 1)) ?_
          simp only [T.wp, T.wp_cond, Aft, Int.ofNat_eq_natCast, decide_eq_true_eq, and_true, true_and, Nat.zero_add, Bool.not_eq_true', decide_eq_false_iff_not]
          rw [Int.natCast_succ] at nx
          exact ite_no (by omega) ⟨by unfold Sym.i64ok; omega, nx⟩
        | succ q ih2 =>
          intro h hh
          have nx2 := ih2 (h + 1) (by omega)
          have e2 : F.bH x i B (h + 1) = (if (x.getD h []).getD i false then (if (F.bH x i B h).getD i 0 < (F.bH x i B h).getD h 0 + 1 then (F.bH x i B h).set i ((F.bH x i B h).getD h 0 + 1) else F.bH x i B h) else F.bH x i B h) := rfl
          rw [e2] at nx2
          have bd := F.bH_bound x i B hb2 h (by omega) h
          have hl2 : (F.bH x i B h).length = K + 1 := by rw [F.bH_len, hB]
          have hrow := h3 h (by omega)
          have hhx : h < x.length := by omega
          refine Runs.go (cfg := C_lea) L_lea_ok mixed cuts_rlam 400 hb (rlam_t7 x x_t (K : Int) (i : Int) (h : Int) (F.bH x i B h) (K + 1)) ?_
          generalize F.bH x i B h = V at *
          simp only [T.wp, T.wp_cond, Aft, Int.ofNat_eq_natCast, decide_eq_true_eq, and_true, true_and, Nat.zero_add, Bool.not_eq_true', decide_eq_false_iff_not]
          refine ite_yes (by omega) ?_
          refine Runs.open 0 h (t := 4) (LL := x) (op := none) rfl hhx (st' := st_rlam_r9b x x_t (K : Int) (i : Int) (h : Int) V (K + 1) h (x.getD h [])) rfl ?_
          refine Runs.go (cfg := C_lea) L_lea_ok mixed cuts_rlam_r9b 400 hb (rlam_tr9b x x_t (K : Int) (i : Int) (h : Int) V (K + 1) h (x.getD h [])) ?_
          have close : ∀ V' : List Int, Sym.Runs Try.prog b0 (cutAt Try.f13 7) (st_rlam_7 x x_t (K : Int) (i : Int) ((h + 1 : Nat) : Int) V' (K + 1)) (Sym.Ends Try.prog Try.f13 1 (.c (.int .i64 (F.rlam x K))) []) →
              Sym.Runs Try.prog b0 (regAt Try.f13 11) ⟨tmG 35 [(0, .c (.slc 0 0 (List.length x) x_t)), (0, .c (.int .i64 (K : Int))), (3, .c (.slc 1 0 (K + 1) true)), (0, .c (.int .i64 (i : Int))), (5, .c (.int .i64 ((K : Int) + 1))), (0, .c (.int .i64 (i : Int))), (5, .c (.int .i64 (i : Int))), (0, .c (.int .i64 (h : Int)))], ([.nin 4 x (some (h, .slc 2 0 (List.length (x.getD h [])) false)), .arr 0 V' 3, .inp 4 (x.getD h [])] : Heap cod)⟩ (Sym.Ends Try.prog Try.f13 1 (.c (.int .i64 (F.rlam x K))) []) := by
            intro V' hV
            refine Runs.close 0 rfl ?_
            refine Runs.weaken (st' := st_rlam_r11 x x_t (K : Int) (i : Int) (h : Int) V' (K + 1)) (fun a w hR => fit_rel [5, 6, 0, 1, 12, 13, 19, 20] 2 (by omega) hR) ?_
            refine Runs.go (cfg := C_lea) L_lea_ok mixed cuts_rlam_r11 400 hb (rlam_tr11 x x_t (K : Int) (i : Int) (h : Int) V' (K + 1)) ?_
            simp only [T.wp, T.wp_cond, Aft, Int.ofNat_eq_natCast, decide_eq_true_eq, and_true, true_and, Nat.zero_add, Bool.not_eq_true', decide_eq_false_iff_not]
            rw [Int.natCast_succ] at hV
            exact ⟨by unfold Sym.i64ok; omega, hV⟩
          generalize x.getD h [] = r at *
          simp only [T.wp, T.wp_cond, Aft, Int.ofNat_eq_natCast, decide_eq_true_eq, and_true, true_and, Nat.zero_add, Bool.not_eq_true', decide_eq_false_iff_not, Nat.zero_add, Int.toNat_natCast, ez, eb]
          have z1 : (0 : Int) ≤ (h : Int) ∧ (h : Int) < (x.length : Int) := ⟨by omega, by omega⟩
          have z2 : (0 : Int) ≤ (i : Int) ∧ (i : Int) < (r.length : Int) := ⟨by omega, by omega⟩
          have z3 : (0 : Int) ≤ (h : Int) ∧ (h : Int) < ((K + 1 : Nat) : Int) := ⟨by omega, by omega⟩
          have z4 : (0 : Int) ≤ (i : Int) ∧ (i : Int) < ((K + 1 : Nat) : Int) := ⟨by omega, by omega⟩
          have w1 : i < r.length := by omega
          have w2 : h < V.length := by omega
          have w3 : i < V.length := by omega
          have z5 : Sym.i64ok (V.getD h 0 + 1) := by unfold Sym.i64ok; omega
          refine ⟨z1, hhx, z2, w1, ?_⟩
          cases c1 : r.getD i false with
          | true =>
            rw [c1, if_pos rfl] at nx2
            refine ite_yes rfl ⟨z3, w2, z5, z4, w3, ?_⟩
            by_cases c2 : V.getD i 0 < V.getD h 0 + 1
            · rw [if_pos c2] at nx2
              exact ite_yes c2 ⟨z3, w2, z5, z4, w3, close _ nx2⟩
            · rw [if_neg c2] at nx2
              exact ite_no c2 (close _ nx2)
          | false =>
            rw [c1, if_neg (by decide)] at nx2
            exact ite_no (by decide) (close _ nx2)
      exact inner i 0 (by omega)
  refine Runs.go (cfg := C_lea) L_lea_ok mixed cuts_rlam 400 hb (rlam_t0 x x_t (K : Int)) ?_
  simp only [T.wp, T.wp_cond, Aft, Int.ofNat_eq_natCast, decide_eq_true_eq, and_true, true_and, Nat.zero_add, Bool.not_eq_true', decide_eq_false_iff_not, eK]
  exact ⟨by unfold Sym.i64ok; omega, ⟨by omega, by omega⟩, by unfold Sym.i64ok; omega, key (K + 1) 0 (by omega)⟩



noncomputable def s_rlam : Summ cod := fun args H => match args, H with
  | [.c (.slc 0 x_i x_n x_t), .c (.int .i64 k)], [o0] => (match o0.asNin 4 with | some x => .need ((x_i = 0 ∧ x_n = List.length x) ∧ (0 ≤ k) ∧ (k < x.length) ∧ (x.length ≤ 200) ∧ (F.sqM x)) (.ret (.c (.int .i64 (F.rlam x k.toNat)), [])) | none => .fail)
  | _, _ => .fail


theorem rlam_sound : Sound Try.prog cod 13 s_rlam := sound_runs (cfg := C_lea) L_lea_ok mixed Try.func13 rfl rfl _ fun args H r news hg b0 hb => by
  unfold s_rlam at hg
  split at hg
  · skip
    split at hg
    · rename_i x hx0
      cases asNin_spec hx0
      simp only [T.gives, T.wp, Prod.mk.injEq] at hg
      obtain ⟨⟨⟨rfl, rfl⟩, q1, q2, q3, q4⟩, rfl, rfl⟩ := hg
      exact rlam_run _ _ _ b0 hb (by assumption) (by assumption) (by assumption) (by assumption)
    · exact hg.elim
  · exact hg.elim

noncomputable def L_rlam : Sums cod := (13, .p s_rlam) :: L_lea
noncomputable def C_rlam : Cfg cod := mkC L_rlam

theorem L_rlam_ok : Snd Try.prog cod L_rlam := .cons rlam_sound L_lea_ok


end
end Go.Proofs.Ytgmnfdmlidhbcaa
