/- Part of a claim: lemmas on the way to its theorem; each states its own conditions. -/
import Derived.Test.YteipmcdiegngcaaRows
import Derived.WalkKit
import Derived.ProofKit
import Derived.OpenShut
import Derived.ShutString
import Derived.WalkSpells
import Derived.WalkLawsBesides
import Derived.Handy
import Derived.Deep.QuietTactic
import Derived.BigQuiet
import Derived.Lib.Hide
namespace Go.Proofs.Yteipmcdiegngcaa
open Go.ChangeShapes Go.WideShapes Go.ChangeAt Go.RowKit


theorem in_any (n lo hi : Int) (w : World) : Calls Try.prog 7 #[.int .i64 n, .int .i64 lo, .int .i64 hi] w fun e w' => e = .returned (.bool (decide (lo ≤ n) && decide (n ≤ hi))) ∧ w = w' := by
  go_enter Try.func7, Try.ntmps7
  go_wp2
  all_goals (go_ret; exact ⟨by simp [*]; try omega, rfl⟩)

theorem in_yes (n lo hi : Int) (h : lo ≤ n ∧ n ≤ hi) (w : World) : Calls Try.prog 7 #[.int .i64 n, .int .i64 lo, .int .i64 hi] w fun e w' => e = .returned (.bool true) ∧ w = w' :=
  (in_any n lo hi w).mono fun _ _ ⟨he, hw⟩ => ⟨by rw [he]; simp [h], hw⟩
theorem in_no (n lo hi : Int) (h : ¬ (lo ≤ n ∧ n ≤ hi)) (w : World) : Calls Try.prog 7 #[.int .i64 n, .int .i64 lo, .int .i64 hi] w fun e w' => e = .returned (.bool false) ∧ w = w' :=
  (in_any n lo hi w).mono fun _ _ ⟨he, hw⟩ => ⟨by rw [he]; simp; omega, hw⟩

theorem wrong_any (n : Int) (w : World) : Calls Try.prog 12 #[.int .i64 n] w fun e w' => e = .returned (.bool (decide (n < 0) || decide (4095 < n))) ∧ w = w' := by
  go_enter Try.func12, Try.ntmps12
  go_wp2
  all_goals (go_ret; exact ⟨by simp [*]; try omega, rfl⟩)


theorem ofInt_i64 (a : Nat) (ha : a < 9223372036854775808) : (BitVec.ofInt 64 (a : Int)).toNat = a := by
  rw [BitVec.ofInt_natCast, BitVec.toNat_ofNat]; exact Nat.mod_eq_of_lt (by omega)
theorem i64_and_nat (a b : Nat) (ha : a < 9223372036854775808) (hb : b < 9223372036854775808) : bits .and .i64 (a : Int) (b : Int) = ((a &&& b : Nat) : Int) := by
  have hx : a &&& b < 2 ^ 63 := Nat.and_lt_two_pow _ (by omega)
  show IntKind.i64.wrap ((BitVec.ofInt 64 (a : Int) &&& BitVec.ofInt 64 (b : Int)).toNat : Int) = _
  rw [BitVec.toNat_and, ofInt_i64 a ha, ofInt_i64 b hb, IntKind.wrap_i64]
  omega
theorem and7 (n : Int) (h0 : 0 ≤ n) (h1 : n < 9223372036854775808) : bits .and .i64 n 7 = n % 8 := by
  obtain ⟨k, rfl⟩ := Int.eq_ofNat_of_zero_le h0
  have := i64_and_nat k 7 (by omega) (by omega)
  rw [show ((7 : Nat) : Int) = 7 from rfl] at this
  rw [this, Nat.and_two_pow_sub_one_eq_mod k 3]
  omega

def digits (n : Int) : List Int := [48 + n / 512, 48 + n / 64 % 8, 48 + n / 8 % 8, 48 + n % 8]

theorem conv4 (w : World) (a b c d : Int) : (convert 36 9 (.slice (some ⟨w.heap.size, 0, none⟩) 4 4)).run Try.prog (w.alloc (.cells #[.int .u8 a, .int .u8 b, .int .u8 c, .int .u8 d] 5)) =
    .ok (.string (strOfNums [a, b, c, d])) (w.alloc (.cells #[.int .u8 a, .int .u8 b, .int .u8 c, .int .u8 d] 5)) :=
  run_convert_bytes_arg _ 36 5 Try.underlying36 Try.underlying5 w.heap.size 0 4 4 [a, b, c, d] rfl (by
    intro i hi
    match i, hi with
    | 0, _ => go_simp
    | 1, _ => go_simp
    | 2, _ => go_simp
    | 3, _ => go_simp) 9 Try.underlying9

theorem octal_ok (n : Int) (h0 : 0 ≤ n) (h1 : n ≤ 4095) (w : World) : Calls Try.prog 5 #[.int .i64 n] w fun e w' => e = .returned (.tuple #[.string (strOfNums (digits n)), .int .i64 0]) ∧ Below w.heap.size w w' := by
  have hcv := conv4 w
  have e1 := and7 (n / 64) (by omega) (by omega)
  have e2 := and7 (n / 8) (by omega) (by omega)
  have e3 := and7 n (by omega) (by omega)
  go_enter Try.func5, Try.ntmps5
  go_wp2_with (go_at_call 12; refine (wrong_any _ _).mono ?_; rintro e w' ⟨rfl, rfl⟩)
  go_returns
  refine ⟨rfl, ?_⟩
  go_grown

theorem octal_no (n : Int) (h : n < 0 ∨ 4095 < n) (w : World) : Calls Try.prog 5 #[.int .i64 n] w fun e w' => e = .returned (.tuple #[.string ⟨#[]⟩, .int .i64 4]) ∧ w = w' := by
  go_enter Try.func5, Try.ntmps5
  go_wp2_with (go_at_call 12; refine (wrong_any _ _).mono ?_; rintro e w' ⟨rfl, rfl⟩)
  go_returns
  exact ⟨rfl, rfl⟩

/-- Read: the digits one after the other. -/
def oct (c : UInt8) : Bool := decide (48 ≤ (c.toNat : Int)) && decide ((c.toNat : Int) ≤ 55)
def val (l : List UInt8) : Int := l.foldl (fun n c => 8 * n + ((c.toNat : Int) - 48)) 0


def okL (l : List UInt8) : Bool := decide (l.length = 4) && l.all oct
def readRes (l : List UInt8) : Value := if okL l then .tuple #[.int .i64 (val l), .int .i64 0] else .tuple #[.int .i64 0, .int .i64 5]

theorem val_snoc (l : List UInt8) (c : UInt8) : val (l ++ [c]) = 8 * val l + ((c.toNat : Int) - 48) := by simp [val]
theorem take_snoc (s : ByteArray) (k : Nat) (h : k < s.size) : s.data.toList.take (k + 1) = s.data.toList.take k ++ [s[k]] := by
  rw [List.take_succ_eq_append_getElem (by simpa using h)]; rfl
theorem val_bd : ∀ (k : Nat) (l : List UInt8), l.length = k → l.all oct = true → 0 ≤ val l ∧ val l < 8 ^ k
  | 0, [], _, _ => by simp [val]
  | k + 1, l, hl, ho => by
    have hne : l ≠ [] := by intro h; simp [h] at hl
    rw [← List.dropLast_concat_getLast hne] at ho ⊢
    rw [val_snoc]
    simp [oct] at ho
    have ih := val_bd k l.dropLast (by simp; omega) (by simpa [oct] using ho.1)
    have := ho.2
    have e : (8 : Int) ^ (k + 1) = 8 ^ k * 8 := by rw [Int.pow_succ]
    rw [e]
    omega

theorem read_any (s : ByteArray) (w : World) : Calls Try.prog 6 #[.string s] w fun e w' => e = .returned (readRes s.data.toList) ∧ w = w' := by
  by_cases h4 : (s.size : Int) = 4
  · have h4n : s.size = 4 := by omega
    have hl4 : s.data.toList.length = 4 := by simpa using h4n
    have H4 := Lib.hid h4
    have Hl4 := Lib.hid hl4
    clear h4 hl4
    have hsz : (s.size : Int) ≤ 4 := by omega
    have hsz' : 4 ≤ (s.size : Int) := by omega
    have hne : ((s.size : Int) != 4) = false := by simpa using H4.out
    have H4n := Lib.hid h4n
    clear h4n
    go_enter Try.func6, Try.ntmps6
    go_wp2
    go_loop [4, 9] (fun n i => ∃ k : Nat, k ≤ 4 ∧ i = .int .i64 k ∧ n = .int .i64 (val (s.data.toList.take k)) ∧ (s.data.toList.take k).all oct = true) (fun _ i => 4 - (intOf i).toNat)
    case atStart => exact ⟨0, by omega, rfl, rfl, rfl⟩
    case round =>
      obtain ⟨k, hk, rfl, rfl, ho⟩ := hrel
      have Ho := Lib.hid ho
      clear ho
      by_cases hlt : k < 4
      · have hks : k < s.size := by omega
        have hb := val_bd k (s.data.toList.take k) (by simp; omega) Ho.out
        have h8 : (8 : Int) ^ k ≤ 512 := by
          have : (8:Int)^k ≤ 8^3 := by exact_mod_cast Nat.pow_le_pow_right (by omega) (by omega)
          simpa using this
        obtain ⟨hb0, hb1⟩ := hb
        have hb2 : val (s.data.toList.take k) ≤ 512 := by omega
        clear hb1 h8
        have Hs := Lib.hid (take_snoc s k hks)
        have hno : ¬ oct s[k] = true → okL s.data.toList = false := fun h => by
          have hm : s[k] ∈ s.data.toList := by
            have : s[k] = s.data.toList[k]'(by simpa using hks) := rfl
            rw [this]; exact List.getElem_mem _
          simp only [okL, Bool.and_eq_false_iff]
          exact .inr (by rw [List.all_eq_false]; exact ⟨_, hm, h⟩)
        have Hno := Lib.hid hno
        clear hno
        go_wp2
        · go_returns
          exact ⟨by rw [readRes, Hno.out (by simp [oct]; omega)]; rfl, rfl⟩
        · go_round
          case rel => exact ⟨k + 1, by omega, by go_num, by rw [Hs.out, val_snoc], by rw [Hs.out, List.all_append, Ho.out]; simp [oct]; omega⟩
          case measure => simp [intOf]; omega
        · go_returns
          exact ⟨by rw [readRes, Hno.out (by simp [oct]; omega)]; rfl, rfl⟩
      · have hf : s.data.toList.take k = s.data.toList := List.take_of_length_le (by rw [Hl4.out]; omega)
        have ho := Ho.out
        rw [hf] at ho
        have hfin : readRes s.data.toList = .tuple #[.int .i64 (val (s.data.toList.take k)), .int .i64 0] := by
          simp only [readRes, okL, Hl4.out, ho, hf]; rfl
        have Hfin := Lib.hid hfin
        clear hfin hf ho
        go_wp2
        go_returns
        exact ⟨by rw [Hfin.out]; rfl, rfl⟩
  · go_enter Try.func6, Try.ntmps6
    go_wp2
    go_returns
    refine ⟨?_, rfl⟩
    have : okL s.data.toList = false := by simp [okL]; omega
    simp [readRes, this]
end Go.Proofs.Yteipmcdiegngcaa
