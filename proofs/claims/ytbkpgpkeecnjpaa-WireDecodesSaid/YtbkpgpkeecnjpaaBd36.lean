/- Parts of the proof, one behind the other: Wi, FlR. -/
import Derived.Test.YtbkpgpkeecnjpaaBd35
import Derived.Test.YtbkpgpkeecnjpaaBd26
section
namespace Go.Proofs.Ytbkpgpkeecnjpaa
open Sym Go.RowKit
noncomputable section
set_option maxRecDepth 100000
set_option maxHeartbeats 4000000



def nilFrame : List SV → Bool
  | .agg [_, _, .nil] :: _ => true
  | _ => false
noncomputable def s_Enc : Summ cod := s_by nilFrame s_wenc0 s_wenc
noncomputable def s_Chk : Summ cod := s_by nilFrame s_chk0 s_chk


theorem Enc_sound : Sound Try.prog cod 10 s_Enc := .by_ _ wenc0_sound wenc_sound
theorem Chk_sound : Sound Try.prog cod 13 s_Chk := .by_ _ chk0_sound chk_sound

noncomputable def L_Enc : Sums cod := (10, .p s_Enc) :: L_wenc0
noncomputable def C_Enc : Cfg cod := mkC L_Enc

theorem L_Enc_ok : Snd Try.prog cod L_Enc := .cons Enc_sound L_wenc0_ok


noncomputable def L_Chk : Sums cod := (13, .p s_Chk) :: L_Enc
noncomputable def C_Chk : Cfg cod := mkC L_Chk

theorem L_Chk_ok : Snd Try.prog cod L_Chk := .cons Chk_sound L_Enc_ok



def cuts_welaw : Cuts := []

theorem welaw_t0 (r t : Int) (l : List (Int × Int × Int × Int × Int × Int)) (l_t : Bool) (s : List UInt8) : symF C_Chk cuts_welaw Try.f3.results.toList 1 400 [.code (codeOf Try.f3)] ⟨argsS Try.f3 [.agg [.int .i64 r, .int .i64 t, .slc 0 0 (List.length l) l_t], .c (.str s)], ([.inp 2 l] : Heap cod)⟩ =
.need ((2 : Nat) ≤ 1000000) (
.need ((0 = 0 ∧ List.length l = List.length l)) (
.need ((0 = 0 ∧ List.length l = List.length l)) (
.need ((0 = 0 ∧ List.length l = List.length l)) (
 cond (!decide (F.chk r t l = F.chk r t l)) (
 .ret (.fin (.c (.bool false)) [])) (
 cond (!decide (F.chk r t l = F.chk r t l)) (
  .ret (.fin (.c (.bool false)) [])) (
  cond (!decide (F.chk r t l = 0)) (
   cond (!decide (F.encS r t l = [])) (
    .ret (.fin (.c (.bool false)) [])) (
    cond (decide (3000 < Int.ofNat (List.length s))) (
     .need (((0 : Int) ≤ 3000 ∧ (3000 : Int) ≤ Int.ofNat (List.length s))) (
     .need (List.length (List.take (Int.toNat 3000) s) ≤ 1000000) (
     .need (List.length (List.take (Int.toNat 3000) s) ≤ 1000000) (
     cond (decide (F.wsum (List.take (Int.toNat 3000) s) = F.wsum (List.take (Int.toNat 3000) s))) (
      cond (!decide (F.chk r t l = 0)) (
       .ret (.fin (.c (.bool true)) [])) (
       .need (((0 = 0 ∧ List.length l = List.length l) ∧ F.chk r t l = 0)) (
       .ret (.fin (.c (.bool (decide (F.encS r t l = F.frame r t l)))) [])))) (
      .ret (.fin (.c (.bool false)) [])))))) (
     .need (List.length s ≤ 1000000) (
     .need (List.length s ≤ 1000000) (
     cond (decide (F.wsum s = F.wsum s)) (
      cond (!decide (F.chk r t l = 0)) (
       .ret (.fin (.c (.bool true)) [])) (
       .need (((0 = 0 ∧ List.length l = List.length l) ∧ F.chk r t l = 0)) (
       .ret (.fin (.c (.bool (decide (F.encS r t l = F.frame r t l)))) [])))) (
      .ret (.fin (.c (.bool false)) []))))))) (
   cond (decide (3000 < Int.ofNat (List.length s))) (
    .need (((0 : Int) ≤ 3000 ∧ (3000 : Int) ≤ Int.ofNat (List.length s))) (
    .need (List.length (List.take (Int.toNat 3000) s) ≤ 1000000) (
    .need (List.length (List.take (Int.toNat 3000) s) ≤ 1000000) (
    cond (decide (F.wsum (List.take (Int.toNat 3000) s) = F.wsum (List.take (Int.toNat 3000) s))) (
     cond (!decide (F.chk r t l = 0)) (
      .ret (.fin (.c (.bool true)) [])) (
      .need (((0 = 0 ∧ List.length l = List.length l) ∧ F.chk r t l = 0)) (
      .ret (.fin (.c (.bool (decide (F.encS r t l = F.frame r t l)))) [])))) (
     .ret (.fin (.c (.bool false)) [])))))) (
    .need (List.length s ≤ 1000000) (
    .need (List.length s ≤ 1000000) (
    cond (decide (F.wsum s = F.wsum s)) (
     cond (!decide (F.chk r t l = 0)) (
      .ret (.fin (.c (.bool true)) [])) (
      .need (((0 = 0 ∧ List.length l = List.length l) ∧ F.chk r t l = 0)) (
      .ret (.fin (.c (.bool (decide (F.encS r t l = F.frame r t l)))) [])))) (
     .ret (.fin (.c (.bool false)) [])))))))))))) := by kernel_rfl



theorem welaw_run (r t : Int) (l : List (Int × Int × Int × Int × Int × Int)) (l_t : Bool) (s : List UInt8) (b0 : Base) (hb : b0.n = 1)  : Sym.Runs Try.prog b0 [.code (codeOf Try.f3)] ⟨argsS Try.f3 [.agg [.int .i64 r, .int .i64 t, .slc 0 0 (List.length l) l_t], .c (.str s)], ([.inp 2 l] : Heap cod)⟩ (Sym.Ends Try.prog Try.f3 1 (.c (.bool true)) []) := by
  refine Runs.go (cfg := C_Chk) L_Chk_ok mixed cuts_welaw 400 hb (welaw_t0 r t l l_t s) ?_
  have e1 : F.chk r t l = 0 → F.encS r t l = F.frame r t l := fun h => by rw [F.encS, if_pos h]
  have e2 : ¬ F.chk r t l = 0 → F.encS r t l = [] := fun h => by rw [F.encS, if_neg h]
  have l3 : (List.take (Int.toNat 3000) s).length ≤ 1000000 := by rw [List.length_take]; omega
  simp only [T.wp, T.wp_cond, Aft, Int.ofNat_eq_natCast, decide_eq_true_eq, and_true, true_and, Nat.zero_add, Bool.not_eq_true', decide_eq_false_iff_not, not_true, if_false, if_true]
  refine ⟨by decide, ?_⟩
  by_cases hc : F.chk r t l = 0
  · have e := e1 hc
    refine ite_no (fun q => q hc) ?_
    by_cases h3 : 3000 < (s.length : Int)
    · exact ite_yes h3 ⟨⟨by decide, by omega⟩, l3, l3, ite_no (fun q => q hc) ⟨hc, by rw [decide_eq_true e]⟩⟩
    · exact ite_no h3 ⟨by omega, by omega, ite_no (fun q => q hc) ⟨hc, by rw [decide_eq_true e]⟩⟩
  · have e := e2 hc
    refine ite_yes hc (ite_no (fun q => q e) ?_)
    by_cases h3 : 3000 < (s.length : Int)
    · exact ite_yes h3 ⟨⟨by decide, by omega⟩, l3, l3, ite_yes hc trivial⟩
    · exact ite_no h3 ⟨by omega, by omega, ite_yes hc trivial⟩



noncomputable def s_welaw : Summ cod := fun args H => match args, H with
  | [.agg [.int .i64 r, .int .i64 t, .slc 0 l_i l_n l_t], .c (.str s)], [o0] => (match o0.asInp 2 with | some l => .need ((l_i = 0 ∧ l_n = List.length l)) (.ret (.c (.bool true), [])) | none => .fail)
  | _, _ => .fail


theorem welaw_sound : Sound Try.prog cod 3 s_welaw := sound_runs (cfg := C_Chk) L_Chk_ok mixed Try.func3 rfl rfl _ fun args H r news hg b0 hb => by
  unfold s_welaw at hg
  split at hg
  · skip
    split at hg
    · rename_i l hx0
      cases asInp_spec hx0
      simp only [T.gives, T.wp, Prod.mk.injEq] at hg
      obtain ⟨⟨rfl, rfl⟩, rfl, rfl⟩ := hg
      exact welaw_run _ _ _ _ _ b0 hb 
    · exact hg.elim
  · exact hg.elim

noncomputable def L_welaw : Sums cod := (3, .p s_welaw) :: L_Chk
noncomputable def C_welaw : Cfg cod := mkC L_welaw

theorem L_welaw_ok : Snd Try.prog cod L_welaw := .cons welaw_sound L_Chk_ok


end
end Go.Proofs.Ytbkpgpkeecnjpaa
end
section
/- int(x) of a double between 0 and two million, and the tests for it. -/
namespace Go.Proofs.Ytbkpgpkeecnjpaa
open Sym Ieee
set_option maxRecDepth 100000
theorem read_bd {b : Nat} {s : Bool} {m : Nat} {i : Int} (h : double.read b = .number s m i) : m < 9007199254740992 := by
  have hw : double.signWeight = 9223372036854775808 := by decide
  have hb : double.binade = 4503599627370496 := by decide
  have hi : double.infRung = 9218868437227405312 := by decide
  unfold Format.read at h
  simp only [hw, hb, hi] at h
  clear hw hb hi
  split at h
  · rename_i hlt
    injection h with _ h2 _
    omega
  · split at h
    · injection h with _ h2 _
      have := Nat.mod_lt (b % 9223372036854775808) (show 0 < 4503599627370496 by decide)
      omega
    · split at h <;> cases h
theorem cut_zero_le (s : Bool) (n d : Nat) : Toward.zero.cut s n d ≤ n := by
  unfold Toward.cut
  exact Nat.div_le_self _ _
theorem signed_bd (s : Bool) (k : Nat) : -(k : Int) ≤ signed s k 0 ∧ signed s k 0 ≤ k := by
  cases s <;> simp [signed]
theorem cmp_or {a b : Int} (h : compare a b = .lt ∨ compare a b = .eq) : a ≤ b := by
  rcases Int.lt_trichotomy a b with g | g | g
  · omega
  · omega
  · rw [cmp_gt' g] at h
    rcases h with h | h <;> cases h
theorem cmp_or' {a b : Int} (h : compare a b = .gt ∨ compare a b = .eq) : b ≤ a := by
  rcases Int.lt_trichotomy a b with g | g | g
  · rw [cmp_lt' g] at h
    rcases h with h | h <;> cases h
  · omega
  · omega
theorem fge_zero {b : Nat} (h : (F.fgt .f64 b 0 || F.feq .f64 b 0) = true) : double.order b 0 = some .gt ∨ double.order b 0 = some .eq := by
  have e : FloatKind.format .f64 = double := rfl
  unfold F.fgt F.feq at h
  rw [e] at h
  simpa using h
theorem fle_top {b : Nat} (h : (F.flt .f64 b 4701340746312056832 || F.feq .f64 b 4701340746312056832) = true) : double.order b 4701340746312056832 = some .lt ∨ double.order b 4701340746312056832 = some .eq := by
  have e : FloatKind.format .f64 = double := rfl
  unfold F.flt F.feq at h
  rw [e] at h
  simpa using h
theorem read_top : double.read 4701340746312056832 = .number false 8589934592000000 (-32) := by decide
theorem read_zero : double.read 0 = .number false 0 (-1074) := by decide
/-- A number in range is cut to an int. -/
theorem f2i_ok {b : Nat} (h0 : (F.fgt .f64 b 0 || F.feq .f64 b 0) = true) (h1 : (F.flt .f64 b 4701340746312056832 || F.feq .f64 b 4701340746312056832) = true) : F.f2iOk .f64 b .i64 := by
  have g0 := fge_zero h0
  have g1 := fle_top h1
  clear h0 h1
  unfold Format.order at g0 g1
  rw [read_zero] at g0
  rw [read_top] at g1
  cases hr : double.read b with
  | nan s p =>
    rw [hr] at g0
    simp [Datum.order] at g0
  | infinity s =>
    rw [hr] at g0 g1
    cases s <;> simp [Datum.order] at g0 g1
  | number s m i =>
    have hm := read_bd hr
    rw [hr] at g0 g1
    have k0 := cmp_or' (by simpa only [Datum.order, Option.some.injEq] using g0)
    have k1 := cmp_or (by simpa only [Datum.order, Option.some.injEq] using g1)
    clear g0 g1
    have big : Toward.zero.cut s (m <<< i.toNat) (-i).toNat < 9007199254740992 := by
      refine Nat.lt_of_le_of_lt (cut_zero_le _ _ _) ?_
      rcases Int.lt_or_le i 0 with hi | hi
      · rw [show i.toNat = 0 by omega]
        exact hm
      · rw [show min i (-32) = -32 by omega] at k1
        rw [show min i (-1074) = -1074 by omega] at k0
        cases s with
        | true =>
          have k0 : ((0 <<< (-1074 - -1074 : Int).toNat : Nat) : Int) ≤ -((m <<< (i - -1074).toNat : Nat) : Int) := k0
          have : m <<< (i - -1074).toNat = 0 := by
            rw [Nat.zero_shiftLeft] at k0
            generalize m <<< (i - -1074).toNat = z at k0 ⊢
            omega
          rw [Nat.shiftLeft_eq] at this ⊢
          have hp : 0 < 2 ^ (i - -1074).toNat := Nat.pow_pos (by decide)
          have : m = 0 := by
            rcases Nat.mul_eq_zero.1 this with h | h
            · exact h
            · omega
          rw [this]
          simp
        | false =>
          have k1 : ((m <<< (i - -32).toNat : Nat) : Int) ≤ ((8589934592000000 <<< (-32 - -32 : Int).toNat : Nat) : Int) := k1
          have e : (i - -32).toNat = i.toNat + 32 := by omega
          rw [e, show (-32 - -32 : Int).toNat = 0 from rfl, Nat.shiftLeft_zero, Nat.shiftLeft_eq, Nat.pow_add, ← Nat.mul_assoc] at k1
          clear k0
          rw [Nat.shiftLeft_eq]
          generalize m * 2 ^ i.toNat = q at *
          omega
    unfold F.f2iOk floatToIntVal
    have e : FloatKind.decode .f64 b = double.read b := rfl
    rw [e, hr]
    unfold Datum.toInt Datum.integral
    have sb := signed_bd s (Toward.zero.cut s (m <<< i.toNat) (-i).toNat)
    simp only
    rw [if_pos]
    · rfl
    · have e1 : IntKind.min .i64 = -9223372036854775808 := by decide
      have e2 : IntKind.max .i64 = 9223372036854775807 := by decide
      rw [e1, e2]
      clear k0 k1
      omega
theorem cut_whole (k d : Nat) (h : d ≤ 52) (h1 : 4503599627370496 ≤ k * 2 ^ d) : Toward.zero.cut false (k * 2 ^ d) d = k := by
  unfold Toward.cut
  have hlog : d ≤ (k * 2 ^ d).log2 + 2 := by
    have : ¬ (k * 2 ^ d).log2 < 52 := fun q => by
      have := (Nat.log2_lt (by omega) (k := 52)).1 q
      omega
    omega
  rw [Nat.min_eq_left hlog]
  have hp : 0 < 2 ^ d := Nat.pow_pos (by decide)
  simp [Nat.shiftLeft_eq, Nat.mul_div_cancel _ hp]
/-- A whole number comes back. -/
theorem f2i_dbl {n : Nat} (h1 : n < 9007199254740992) : F.f2i .f64 (F.dbl n) .i64 = n := by
  by_cases h : n = 0
  · subst h
    decide
  · have hr := read_dbl h h1
    have hl := log_le h h1
    obtain ⟨s1, s2⟩ := sig_bd h h1
    unfold F.f2i floatToIntVal
    have e : FloatKind.decode .f64 (F.dbl n) = double.read (F.dbl n) := rfl
    rw [e, hr]
    unfold Datum.toInt Datum.integral
    have c : Toward.zero.cut false (n * 2 ^ (52 - n.log2)) (52 - n.log2) = n := cut_whole _ _ (by omega) s1
    simp only [show ((n.log2 : Int) - 52).toNat = 0 by omega, show (-((n.log2 : Int) - 52)).toNat = 52 - n.log2 by omega, Nat.shiftLeft_zero, c]
    have e0 : signed false n 0 = (n : Int) := by simp [signed]
    rw [e0, if_pos]
    · rfl
    · have e1 : IntKind.min .i64 = -9223372036854775808 := by decide
      have e2 : IntKind.max .i64 = 9223372036854775807 := by decide
      rw [e1, e2]
      omega
/-- A whole number in range passes both tests. -/
theorem dbl_ge {n : Nat} (h1 : n < 9007199254740992) : (F.fgt .f64 (F.dbl n) 0 || F.feq .f64 (F.dbl n) 0) = true := by
  by_cases h : n = 0
  · subst h
    decide
  · unfold F.fgt
    have e : FloatKind.format .f64 = double := rfl
    rw [e, order_pos0 h h1]
    rfl
theorem dbl_le {n : Nat} (h1 : n ≤ 2000000) : (F.flt .f64 (F.dbl n) 4701340746312056832 || F.feq .f64 (F.dbl n) 4701340746312056832) = true := by
  by_cases h : n = 0
  · subst h
    decide
  · have e0 : F.dbl 2000000 = 4701340746312056832 := by decide
    unfold F.flt F.feq
    have e : FloatKind.format .f64 = double := rfl
    rw [e, ← e0, order_dbl h (by omega) (by decide) (by decide)]
    rcases Int.lt_trichotomy (n : Int) ((2000000 : Nat) : Int) with g | g | g
    · rw [cmp_lt' g]
      rfl
    · rw [g, cmp_eq']
      rfl
    · omega
end Go.Proofs.Ytbkpgpkeecnjpaa
end
