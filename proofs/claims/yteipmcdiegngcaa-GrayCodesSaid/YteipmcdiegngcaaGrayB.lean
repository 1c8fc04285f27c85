/- Part of a claim: lemmas on the way to its theorem; each states its own conditions. -/
import Derived.Test.YteipmcdiegngcaaRows
import Derived.Test.YteipmcdiegngcaaKit
import Derived.Test.YteipmcdiegngcaaGrayMath
namespace Go.Proofs.Yteipmcdiegngcaa.B
open Go.ChangeShapes Go.WideShapes Go.ChangeAt Go.RowKit

theorem info3 : (Try.prog.info? 3).map (fun i => (i.zero, i.size, i.bytes)) = some (some (.int .i64 0), 1, 8) := by kernel_rfl

theorem in_yes (n lo hi : Int) (h : lo ≤ n ∧ n ≤ hi) (w : World) : Calls Try.prog 7 #[.int .i64 n, .int .i64 lo, .int .i64 hi] w fun e w' => e = .returned (.bool true) ∧ w = w' := by
  go_enter Try.func7, Try.ntmps7
  go_wp2
  all_goals (go_ret; exact ⟨by simp [*]; try omega, rfl⟩)
theorem in_no (n lo hi : Int) (h : ¬ (lo ≤ n ∧ n ≤ hi)) (w : World) : Calls Try.prog 7 #[.int .i64 n, .int .i64 lo, .int .i64 hi] w fun e w' => e = .returned (.bool false) ∧ w = w' := by
  go_enter Try.func7, Try.ntmps7
  go_wp2
  all_goals (go_ret; exact ⟨by simp [*]; try omega, rfl⟩)
theorem wrong_yes (n : Int) (h : ¬ (0 ≤ n ∧ n ≤ 4095)) (w : World) : Calls Try.prog 12 #[.int .i64 n] w fun e w' => e = .returned (.bool true) ∧ w = w' := by
  go_enter Try.func12, Try.ntmps12
  go_wp2
  all_goals (go_ret; exact ⟨by simp [*]; try omega, rfl⟩)
theorem wrong_no (n : Int) (h0 : 0 ≤ n) (h1 : n ≤ 4095) (w : World) : Calls Try.prog 12 #[.int .i64 n] w fun e w' => e = .returned (.bool false) ∧ w = w' := by
  go_enter Try.func12, Try.ntmps12
  go_wp2
  all_goals (go_ret; exact ⟨by simp [*]; try omega, rfl⟩)

theorem down_any (a b : Int) (h0 : 0 ≤ a) (h1 : a ≤ 1000000000) (hb : 1 ≤ b) (hb1 : b ≤ 1000000000) (w : World) : Calls Try.prog 10 #[.int .i64 a, .int .i64 b] w fun e w' => e = .returned (.int .i64 (a / b)) ∧ w = w' := by
  have hq0 : 0 ≤ a / b := Int.ediv_nonneg h0 (by omega)
  have hq1 : a / b ≤ a := Int.ediv_le_self b h0
  have hm0 : a / b * b ≤ a := Int.ediv_mul_le a (by omega)
  have hm1 : 0 ≤ a / b * b := Int.mul_nonneg hq0 (by omega)
  go_enter Try.func10, Try.ntmps10
  go_wp2
  go_ret
  exact ⟨rfl, rfl⟩

theorem encode_yes (h : Int) (h0 : -1000 ≤ h) (h1 : h ≤ 60000) (w : World) : Calls Try.prog 8 #[.int .i64 h] w fun e w' => e = .returned (.tuple #[.int .i64 (gray ((h + 1000) / 100).toNat), .int .i64 0]) ∧ w = w' := by
  obtain ⟨m, hm⟩ := Int.eq_ofNat_of_zero_le (show 0 ≤ (h + 1000) / 100 by omega)
  have hx := i64_xor_nat m (m / 2) (by omega) (by omega)
  have Hm := Lib.hid hm
  have he : (m ^^^ (m / 2)) = gray m := rfl
  rw [Int.natCast_ediv, he] at hx
  have ht : ((h + 1000) / 100).toNat = m := by omega
  rw [ht]
  clear ht
  have hx' : bits BinOp.xor IntKind.i64 (↑m) (↑m / 2) = ↑(gray m) := hx
  clear hx he
  go_enter Try.func8, Try.ntmps8
  go_wp2
  go_returns
  exact ⟨rfl, rfl⟩
theorem encode_no (h : Int) (h0 : ¬ (-1000 ≤ h ∧ h ≤ 60000)) (w : World) : Calls Try.prog 8 #[.int .i64 h] w fun e w' => e = .returned (.tuple #[.int .i64 0, .int .i64 4]) ∧ w = w' := by
  by_cases hc : h < -1000
  · go_enter Try.func8, Try.ntmps8
    go_wp2
    go_returns
    exact ⟨rfl, rfl⟩
  · have hc2 : 60000 < h := by omega
    go_enter Try.func8, Try.ntmps8
    go_wp2
    go_returns
    exact ⟨rfl, rfl⟩

def decRes (n : Int) : Value := if 60000 < n * 100 - 1000 then .tuple #[.int .i64 0, .int .i64 8] else .tuple #[.int .i64 (n * 100 - 1000), .int .i64 0]
theorem decode_yes (c : Nat) (h : c < 4096) (w : World) : Calls Try.prog 11 #[.int .i64 c] w fun e w' => e = .returned (decRes (dec c)) ∧ w = w' := by
  have hlt := decTo_lt c h
  have Hlt := Lib.hid hlt
  clear hlt
  go_enter Try.func11, Try.ntmps11
  go_wp2_with (go_at_call 12; refine (wrong_no _ (by omega) (by omega) _).mono ?_; rintro e w' ⟨rfl, rfl⟩)
  go_loop [4, 5] (fun n k => ∃ j : Nat, j ≤ 12 ∧ n = .int .i64 (decTo j c : Nat) ∧ k = .int .i64 (c / 2 ^ (j + 1) : Nat)) (fun _ k => (intOf k).toNat)
  case atStart => exact ⟨0, by omega, rfl, by simp⟩
  case round =>
    obtain ⟨j, hj, rfl, rfl⟩ := hrel
    have hd := Hlt.out j
    have hk : c / 2 ^ (j + 1) < 4096 := Nat.lt_of_le_of_lt (Nat.div_le_self _ _) h
    have hx := i64_xor_nat (decTo j c) (c / 2 ^ (j + 1)) (by omega) (by omega)
    have hs : c / 2 ^ (j + 2) = c / 2 ^ (j + 1) / 2 := by rw [Nat.div_div_eq_div_mul, ← Nat.pow_succ]
    have Hs := Lib.hid hs
    clear hs
    have Hdone := Lib.hid (decTo_done c (12 - j) j)
    have H12 := Lib.hid (show j = 12 → c / 2 ^ (j + 1) = 0 from fun e => by subst e; exact Nat.div_eq_of_lt (by omega))
    have hn : decTo (j + 1) c = decTo j c ^^^ (c / 2 ^ (j + 1)) := rfl
    rw [← hn] at hx
    have hd1 := Hlt.out (j + 1)
    clear hn
    generalize hK : c / 2 ^ (j + 1) = K at *
    have HK := Lib.hid hK
    clear hK
    generalize hD : decTo j c = D at *
    have HD := Lib.hid hD
    clear hD
    generalize hE : decTo (j + 1) c = E at *
    have HE := Lib.hid hE
    clear hE
    by_cases h0 : K = 0
    · have hfin : D = dec c := by
        have := Hdone.out h0
        rw [show j + (12 - j) = 12 by omega] at this
        exact this.symm
      subst h0
      have Hfin := Lib.hid hfin
      clear hfin
      go_wp2
      all_goals
        go_returns
        exact ⟨by rw [decRes, ← Hfin.out]; first | (rw [if_pos (by omega)]; rfl) | (rw [if_neg (by omega)]; rfl), rfl⟩
    · go_wp2
      go_round
      case rel => exact ⟨j + 1, by have := H12.out; omega, by rw [HE.out], by rw [Hs.out]; rfl⟩
      case measure => simp [intOf]; omega
theorem decode_no (n : Int) (h : ¬ (0 ≤ n ∧ n ≤ 4095)) (w : World) : Calls Try.prog 11 #[.int .i64 n] w fun e w' => e = .returned (.tuple #[.int .i64 0, .int .i64 4]) ∧ w = w' := by
  go_enter Try.func11, Try.ntmps11
  go_wp2_with (go_at_call 12; refine (wrong_yes _ h _).mono ?_; rintro e w' ⟨rfl, rfl⟩)
  go_returns
  exact ⟨rfl, rfl⟩


def vals (l : List Nat) : List Value := l.map fun n : Nat => Value.int .i64 (n : Int)
theorem vals_get (l : List Nat) (i : Nat) (x : Nat) (h : l[i]? = some x) : (vals l)[i]? = some (.int .i64 x) := by simp [vals, h]

set_option maxRecDepth 100000 in
set_option maxHeartbeats 400000 in
theorem grays_any (w : World) : Calls Try.prog 9 #[] w fun e w' => ∃ g cap, e = .returned (.slice (some ⟨g, 0, none⟩) 4096 cap) ∧ w'.ownsRow w.heap.size 3 1 (.slice (some ⟨g, 0, none⟩) 4096 cap) 4096 (vals (tab 12)) ∧ Below w.heap.size w w' := by
  go_enter Try.func9, Try.ntmps9
  go_wp2
  go_loopw [1, 2] (fun l bit wr => ∃ b : Nat, b ≤ 12 ∧ bit = .int .i64 (2 ^ b : Nat) ∧ wr.ownsRow w.heap.size 3 1 l (2 ^ b) (vals (tab b)) ∧ Below w.heap.size w wr) (fun _ bit _ => 4096 - (intOf bit).toNat)
  case atStart => exact ⟨0, by omega, rfl, World.ownsRow_lit w #[.int .i64 0] 1 (Nat.le_refl _) (by decide) rfl, by go_grown⟩
  case round =>
    obtain ⟨b, hb, rfl, hown, hbel⟩ := hrel
    have hN1 : 1 ≤ 2 ^ b := Nat.one_le_two_pow
    have hN2 : 2 ^ b ≤ 2 ^ 12 := Nat.pow_le_pow_right (by omega) hb
    have hN3 : b < 12 → 2 ^ b ≤ 2 ^ 11 := fun h => Nat.pow_le_pow_right (by omega) (by omega)
    have Hs := Lib.hid (Nat.pow_succ 2 b)
    have HtF := Lib.hid (tabM_full b)
    have HtO := Lib.hid (tabM_old b)
    have HtL := Lib.hid (tab_length b)
    have HtM := Lib.hid (tabM_length b)
    have HtS := Lib.hid (tabM_snoc b)
    rw [← tabM_zero] at hown
    generalize hN : 2 ^ b = N at *
    have HN := Lib.hid hN
    clear hN
    have hN2' : N ≤ 4096 := hN2
    clear hN2
    obtain ⟨g, c, rfl, _, _⟩ := hown.form (by omega)
    have Hown := Lib.hid hown
    clear hown
    by_cases hlt : b < 12
    · have hN5 := hN3 hlt
      clear hN3
      go_wp2
      obtain ⟨wo, rfl⟩ : ∃ wo : World, wo = wr := ⟨_, rfl⟩
      go_loopw [1, 3] (fun l i wr => ∃ m : Nat, m ≤ N ∧ ∃ i0 : Int, Hid (i0 + 1 + m = N) ∧ i = .int .i64 i0 ∧ wr.ownsRow w.heap.size 3 1 l (N + m) (vals (tabM b m)) ∧ Below w.heap.size w wr) (fun _ i _ => (intOf i + 1).toNat)
      case atStart => exact ⟨0, by omega, N - 1, Lib.hid (by omega), rfl, Hown.out, hbel⟩
      case round =>
        obtain ⟨m, hm, i0, Hi, rfl, hown, hbel2⟩ := hrel
        clear Hown hbel
        obtain ⟨g2, c2, rfl, hg2, hg3⟩ := hown.form (by omega)
        by_cases hi0 : 0 ≤ i0
        · obtain ⟨k, rfl⟩ := Int.eq_ofNat_of_zero_le hi0
          have hkN : k < N := by have := Hi.out; omega
          have hmN : m < N := by have := Hi.out; omega
          have hx : (tab b)[k]? = some ((tab b).getD k 0) := by
            have : k < (tab b).length := by rw [HtL.out]; exact hkN
            simp [List.getD, List.getElem?_eq_getElem this]
          have hxl : (tab b).getD k 0 < N := by
            have hl : k < (tab b).length := by rw [HtL.out]; exact hkN
            have := tab_lt b ((tab b)[k]'hl) (List.getElem_mem _)
            rw [HN.out] at this
            simpa [List.getD, List.getElem?_eq_getElem hl] using this
          have hsn : tabM b (m + 1) = tabM b m ++ [(tab b).getD k 0 + N] := by
            rw [HtS.out m hmN]
            have : N - 1 - m = k := by have := Hi.out; omega
            rw [this]
          have hcell : wr.cell? ⟨g2, k, none⟩ = some (.int .i64 ((tab b).getD k 0 : Nat)) := by
            rw [hown.cellAt k (by omega)]
            exact vals_get _ _ _ (by rw [HtO.out m k hkN]; exact hx)
          have Hsn := Lib.hid hsn
          clear hsn hx
          generalize hX : (tab b).getD k 0 = X at *
          have HX := Lib.hid hX
          clear hX
          have hbase := hbel2.size
          go_wp2_with (at_builtin; refine wpList_push rfl (.tmp 16) (.tmp 23) 30 rfl w.heap.size 3 1 8 info3 Try.underlying30 rfl (by decide) hown rfl _ 3 rfl rfl rfl (by omega) (by omega) hbase ?_; intro w1 g3 c3 hown' hbel3 _)
          go_roundw
          case rel => exact ⟨m + 1, by omega, (k : Int) - 1, Lib.hid (by have := Hi.out; omega), rfl, by rw [Hsn.out, ← Nat.add_assoc]; simpa [vals] using hown', hbel2.trans hbel3⟩
          case measure => simp [intOf]; omega
        · have hi1 : i0 = -1 := by have := Hi.out; omega
          have hmN : m = N := by have := Hi.out; omega
          subst hmN
          rw [HtF.out] at hown
          have Hown := Lib.hid hown
          clear hown
          go_wp2
          go_roundw
          case rel => exact ⟨b + 1, by omega, by rw [Hs.out]; go_num, by rw [Hs.out]; simpa [Nat.mul_two] using Hown.out, hbel2⟩
          case measure => simp [intOf]; omega
    · have hb12 : b = 12 := by omega
      subst hb12
      have hN : N = 4096 := HN.out.symm
      subst hN
      go_wp2
      go_ret
      exact ⟨g, c, rfl, by simpa [tabM_zero] using Hown.out, hbel⟩
end Go.Proofs.Yteipmcdiegngcaa.B
