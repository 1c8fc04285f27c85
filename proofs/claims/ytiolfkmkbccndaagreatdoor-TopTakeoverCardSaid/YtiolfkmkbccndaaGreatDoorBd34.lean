/- Parts of the proof, one behind the other: Xo, CtP, Xq. -/
import Derived.Test.YtiolfkmkbccndaaGreatDoorBd24
import Derived.Shelf.Strconv.AtoiAll
import Derived.Shelf.Strconv.Itoa3
import Derived.WalkSpells
import Derived.WalkLawsBesides
import Derived.Handy
import Derived.Lib.Walk
import Derived.Test.YtiolfkmkbccndaaGreatDoorProg
import Derived.Lib.AtoiAll
import Derived.Lib.ItoaNum
import Derived.Lib.Bytealg
import Derived.Lib.Strings
section
/- replay.counter: the library's Atoi and Itoa, their contracts; the text walked. -/
namespace Go.Proofs.YtiolfkmkbccndaaGreatDoor
open Go.ChangeShapes Go.WideShapes Go.ChangeAt Go.RowKit Go.Sort
set_option maxRecDepth 100000
set_option maxHeartbeats 4000000
theorem tabIs_keep {w w' : World} {n : String} {k : IntKind} {l : List Int} (h : Lib.TabIs Tryz.prog w n k l) (hb : Below w.heap.size w w') : Lib.TabIs Tryz.prog w' n k l := by
  unfold Lib.TabIs at h ⊢
  unfold World.var? at h ⊢
  cases hg : Tryz.prog.globalNamed n with
  | none => rw [hg] at h; cases h
  | some g =>
    rw [hg] at h
    simp only [Option.bind_some] at h ⊢
    cases hc : w.heap[g]? with
    | none => rw [hc] at h; cases h
    | some o =>
      have hlt := (Array.getElem?_eq_some_iff.1 hc).1
      rw [hb.block g hlt, hc]
      rw [hc] at h
      exact h
theorem below_bytes {w : World} (t : TypeId) (bs : ByteArray) : Below w.heap.size w (Lib.bytesWorld w t bs) :=
  ⟨rfl, rfl, rfl, by rw [Lib.bytesWorld_size]; omega, fun k hk => Lib.bytesWorld_at_old w t bs k hk⟩
theorem below_grow {w : World} {k : Nat} {os : Array Obj} : Below w.heap.size w (grow (w.drewN k) os) := by
  refine ⟨rfl, rfl, rfl, by simp, fun i hi => ?_⟩
  exact heap_grow_old _ _ (by simpa using hi)
theorem below_trans {a b c : World} (h : Below a.heap.size a b) (k : Below b.heap.size b c) : Below a.heap.size a c :=
  ⟨k.os.trans h.os, k.tape.trans h.tape, k.output.trans h.output, Nat.le_trans h.size k.size, fun i hi => (k.block i (Nat.lt_of_lt_of_le hi h.size)).trans (h.block i hi)⟩
theorem iface_nil (w : World) : (binOp .eql 94 .nilIface .nilIface).run Tryz.prog w = .ok (.bool true) w := by kernel_rfl
theorem iface_some (w : World) (t : TypeId) (p : Value) : (binOp .eql 94 (.iface t p) .nilIface).run Tryz.prog w = .ok (.bool false) w := by
  have ht : Tryz.prog.underlying 94 = _ := Tryz.underlying94
  have h1 : ∀ w d, (Op.equalIn (d + 1) 94 (.iface t p) .nilIface).run Tryz.prog w = .ok false w := fun w d => by simp [Op.equalIn, run_underlying ht]
  have h2 : ∀ w, (Op.equal 94 (.iface t p) .nilIface).run Tryz.prog w = .ok false w := fun w => h1 w 9999
  simp [binOp, h2]
theorem below_hw {w w' : World} (hw : w' = w ∨ ∃ t, w' = Lib.bytesWorld w (YtiolfkmkbccndaaGreatDoor.laysAtoi_ren.t 5) t) : Below w.heap.size w w' := by
  rcases hw with rfl | ⟨t, rfl⟩
  · exact Below.refl _ _
  · exact below_bytes _ _
/-- A number that is read and is in its bounds: it counts if it is written so. -/
theorem counter_ok (s : ByteArray) (v : Int) (hs : s.size ≤ 1000000000000) (h : Lib.atoiAll s.data.toList = .ok v) (h0 : -1000000000 ≤ v) (h1 : v ≤ 1000000000) (w : World) (ht : Lib.TabIs Tryz.prog w "internal/strconv.uint64pow10" .u64 Lib.pow10Tab) :
    Calls Tryz.prog 43 #[.string s] w fun e w' => e = .returned (.tuple #[.int .i64 v, .bool (Lib.itoa v == s.toList)]) ∧ Below w.heap.size w w' := by
  have mixed : Tryz.prog.follows .mixedOrders = true := by kernel_rfl
  go_enter Tryz.func43, Tryz.ntmps43
  go_wp2_with (first
    | (go_at_call 57; refine (Any.strconv_Atoi_ok YtiolfkmkbccndaaGreatDoor.laysAtoi s (by omega) v h _).mono ?_; rintro e w' ⟨rfl, hw⟩)
    | (go_at_call 28; refine (Any.strconv_Itoa YtiolfkmkbccndaaGreatDoor.laysItoa v (by omega) (by omega) _ (tabIs_keep ht (below_hw hw))).mono ?_; rintro e w'' ⟨rfl, k, os, rfl⟩)
    | simp only [iface_nil])
  go_ret2
  exact ⟨rfl, below_trans (below_hw hw) below_grow⟩
/-- A number out of its bounds does not count. -/
theorem counter_out (s : ByteArray) (v : Int) (hs : s.size ≤ 1000000000000) (h : Lib.atoiAll s.data.toList = .ok v) (h0 : v < -1000000000 ∨ 1000000000 < v) (w : World) :
    Calls Tryz.prog 43 #[.string s] w fun e w' => e = .returned (.tuple #[.int .i64 v, .bool false]) ∧ Below w.heap.size w w' := by
  have mixed : Tryz.prog.follows .mixedOrders = true := by kernel_rfl
  by_cases c : -1000000000 ≤ v
  · have c2 : ¬ v ≤ 1000000000 := by omega
    go_enter Tryz.func43, Tryz.ntmps43
    go_wp2_with (first
      | (go_at_call 57; refine (Any.strconv_Atoi_ok YtiolfkmkbccndaaGreatDoor.laysAtoi s (by omega) v h _).mono ?_; rintro e w' ⟨rfl, hw⟩)
      | simp only [iface_nil])
    go_ret2
    exact ⟨rfl, below_hw hw⟩
  · go_enter Tryz.func43, Tryz.ntmps43
    go_wp2_with (first
      | (go_at_call 57; refine (Any.strconv_Atoi_ok YtiolfkmkbccndaaGreatDoor.laysAtoi s (by omega) v h _).mono ?_; rintro e w' ⟨rfl, hw⟩)
      | simp only [iface_nil])
    go_ret2
    exact ⟨rfl, below_hw hw⟩
/-- A text that is no number does not count. -/
theorem counter_syn (s : ByteArray) (hs : s.size ≤ 1000000000000) (h : Lib.atoiAll s.data.toList = Lib.atoiAll []) (ev : Value) (w : World) (hv : w.cell? ⟨4, 0, none⟩ = some ev) (hev : ev = .nilIface ∨ ∃ te pe, ev = .iface te pe) :
    Calls Tryz.prog 43 #[.string s] w fun e w' => e = .returned (.tuple #[.int .i64 0, .bool false]) ∧ Below w.heap.size w w' := by
  have mixed : Tryz.prog.follows .mixedOrders = true := by kernel_rfl
  go_enter Tryz.func43, Tryz.ntmps43
  go_wp2_with (first
    | (go_at_call 57; refine (Any.strconv_Atoi_syntax YtiolfkmkbccndaaGreatDoor.laysAtoi s (by omega) h ev _ hv hev).mono ?_; rintro e w' ⟨N, rfl, _, _, hw⟩)
    | simp only [iface_some])
  go_ret2
  exact ⟨rfl, hw⟩
theorem counter_ran (s : ByteArray) (hs : s.size ≤ 1000000000000) (h : Lib.atoiAll s.data.toList = .range) (ev : Value) (w : World) (hv : w.cell? ⟨5, 0, none⟩ = some ev) (hev : ev = .nilIface ∨ ∃ te pe, ev = .iface te pe) :
    Calls Tryz.prog 43 #[.string s] w fun e w' => e = .returned (.tuple #[.int .i64 (Lib.atoiSat s.data.toList), .bool false]) ∧ Below w.heap.size w w' := by
  have mixed : Tryz.prog.follows .mixedOrders = true := by kernel_rfl
  go_enter Tryz.func43, Tryz.ntmps43
  go_wp2_with (first
    | (go_at_call 57; refine (Any.strconv_Atoi_range YtiolfkmkbccndaaGreatDoor.laysAtoi s (by omega) h ev _ hv hev).mono ?_; rintro e w' ⟨N, rfl, _, _, hw⟩)
    | simp only [iface_some])
  go_ret2
  exact ⟨rfl, hw⟩
end Go.Proofs.YtiolfkmkbccndaaGreatDoor
end
section
/- A counter's text: what the library reads and writes again the same is what the reference accepts. -/
namespace Go.Proofs.YtiolfkmkbccndaaGreatDoor
open Go.Lib
def F.isD (c : UInt8) : Bool := decide (48 ≤ c.toNat ∧ c.toNat ≤ 57)
/-- The number that digits spell behind what there is; none if one is no digit. -/
def F.cdig : Nat → List UInt8 → Option Nat
  | acc, [] => some acc
  | acc, c :: r => if F.isD c = true then F.cdig (acc * 10 + (c.toNat - 48)) r else none
def F.isNeg (s : List UInt8) : Bool := decide (s.head? = some 45)
def F.body (s : List UInt8) : List UInt8 := if F.isNeg s = true then s.tail else s
def F.shape (s : List UInt8) : Bool := !(decide (F.body s = []) || decide (10 < (F.body s).length) || (decide ((F.body s).head? = some 48) && decide (1 < s.length)))
/-- What the reference reads. -/
def F.rcN (s : List UInt8) : Int := if F.shape s = true then (match F.cdig 0 (F.body s) with | some n => if F.isNeg s = true then -(n : Int) else n | none => 0) else 0
def F.rcH (s : List UInt8) : Bool := F.shape s && (match F.cdig 0 (F.body s) with | some n => decide (n ≤ 1000000000) | none => false)
/-- What the program reads. -/
def F.atN (s : List UInt8) : Int := match Lib.atoiAll s with
  | .ok v => v
  | .range => Lib.atoiSat s
  | _ => 0
def F.ctH (s : List UInt8) : Bool := match Lib.atoiAll s with
  | .ok v => decide (-1000000000 ≤ v) && decide (v ≤ 1000000000) && (Lib.itoa v == s)
  | _ => false
theorem cdig_ge : ∀ (l : List UInt8) (acc n : Nat), F.cdig acc l = some n → acc ≤ n
  | [], acc, n, h => by
    simp only [F.cdig, Option.some.injEq] at h
    omega
  | c :: r, acc, n, h => by
    rw [F.cdig] at h
    split at h
    · have := cdig_ge r _ _ h
      omega
    · cases h
theorem parse_cdig : ∀ (l : List UInt8) (acc u : Nat), Lib.parseUint10 acc l = .ok u → F.cdig acc l = some u
  | [], acc, u, h => by
    simp only [Lib.parseUint10, Lib.NumEnd.ok.injEq] at h
    rw [F.cdig, h]
  | c :: r, acc, u, h => by
    rw [Lib.parseUint10] at h
    rw [F.cdig]
    split at h
    · rename_i hd
      rw [if_pos (show F.isD c = true from decide_eq_true hd)]
      split at h
      · cases h
      · split at h
        · cases h
        · exact parse_cdig r _ _ h
    · cases h
theorem cdig_parse : ∀ (l : List UInt8) (acc u : Nat), F.cdig acc l = some u → u < 18446744073709551616 → Lib.parseUint10 acc l = .ok u
  | [], acc, u, h, hu => by
    simp only [F.cdig, Option.some.injEq] at h
    rw [Lib.parseUint10, h]
  | c :: r, acc, u, h, hu => by
    rw [F.cdig] at h
    rw [Lib.parseUint10]
    split at h
    · rename_i hd
      rw [if_pos (of_decide_eq_true hd)]
      have hge := cdig_ge r _ _ h
      rw [if_neg (by omega), if_neg (by omega)]
      exact cdig_parse r _ _ h hu
    · cases h
theorem cdig_snoc : ∀ (l : List UInt8) (acc : Nat) (c : UInt8), F.isD c = true → F.cdig acc (l ++ [c]) = (F.cdig acc l).map fun n => n * 10 + (c.toNat - 48)
  | [], acc, c, h => by simp [F.cdig, h]
  | d :: r, acc, c, h => by
    rw [List.cons_append, F.cdig, F.cdig]
    split
    · exact cdig_snoc r _ c h
    · rfl
theorem cdig_digits : ∀ (l : List UInt8) (acc n : Nat), F.cdig acc l = some n → ∀ c ∈ l, F.isD c = true
  | [], _, _, _, _, h => absurd h List.not_mem_nil
  | d :: r, acc, n, h, c, hc => by
    rw [F.cdig] at h
    split at h
    · rename_i hd
      rcases List.mem_cons.1 hc with rfl | hc
      · exact hd
      · exact cdig_digits r _ _ h c hc
    · cases h
theorem isD_of {k : Nat} (h : k < 10) : F.isD (UInt8.ofNat (48 + k)) = true ∧ (UInt8.ofNat (48 + k)).toNat - 48 = k := by
  have : ∀ k, k < 10 → F.isD (UInt8.ofNat (48 + k)) = true ∧ (UInt8.ofNat (48 + k)).toNat - 48 = k := by decide
  exact this k h
theorem of_isD {c : UInt8} (h : F.isD c = true) : UInt8.ofNat (48 + (c.toNat - 48)) = c ∧ c.toNat - 48 < 10 := by
  have h' : 48 ≤ c.toNat ∧ c.toNat ≤ 57 := of_decide_eq_true h
  refine ⟨?_, by omega⟩
  rw [show 48 + (c.toNat - 48) = c.toNat by omega, UInt8.ofNat_toNat]
/-- The decimal form: its digits spell the number, it is not empty, it begins with 0 only if it is "0", and it is short. -/
theorem dec_cdig (n : Nat) : F.cdig 0 (Lib.decDigits n) = some n ∧ Lib.decDigits n ≠ [] ∧ (0 < n → (Lib.decDigits n).head? ≠ some 48) ∧ (n = 0 → Lib.decDigits n = [48]) ∧ ∀ d, n < 10 ^ (d + 1) → (Lib.decDigits n).length ≤ d + 1 := by
  rw [Lib.decDigits]
  by_cases h : n < 10
  · rw [dif_pos h]
    obtain ⟨h1, h2⟩ := isD_of h
    refine ⟨?_, by simp, fun hp => ?_, fun h0 => by subst h0; rfl, fun d hd => by simp⟩
    · rw [F.cdig, if_pos h1, h2, F.cdig]
      simp
    · rw [List.head?_cons]
      intro e
      have : UInt8.ofNat (48 + n) = 48 := Option.some.inj e
      rw [this] at h2
      have e2 : (48 : UInt8).toNat - 48 = 0 := by decide
      omega
  · rw [dif_neg h]
    obtain ⟨i1, i2, i3, _, i5⟩ := dec_cdig (n / 10)
    obtain ⟨h1, h2⟩ := isD_of (Nat.mod_lt n (by decide : 0 < 10))
    refine ⟨?_, by simp, fun hp => ?_, fun h0 => by omega, fun d hd => ?_⟩
    · rw [cdig_snoc _ _ _ h1, i1, h2]
      simp only [Option.map_some, Option.some.injEq]
      omega
    · have i3' := i3 (by omega)
      cases hl : Lib.decDigits (n / 10) with
      | nil => exact absurd hl i2
      | cons a t => rw [hl] at i3'; simpa using i3'
    · cases d with
      | zero => simp at hd; omega
      | succ d =>
        have := i5 d (by rw [Nat.pow_succ] at hd; omega)
        rw [List.length_append]
        simp only [List.length_cons, List.length_nil]
        omega
theorem cdig_pos {l : List UInt8} {n : Nat} (h : F.cdig 0 l = some n) (h0 : l ≠ []) (h1 : l.head? ≠ some 48) : 0 < n := by
  match l, h0 with
  | c :: r, _ =>
    rw [F.cdig] at h
    split at h
    · rename_i hd
      have hc : 48 ≤ c.toNat ∧ c.toNat ≤ 57 := of_decide_eq_true hd
      have := cdig_ge r _ _ h
      have hne : c.toNat ≠ 48 := fun e => h1 (by rw [List.head?_cons, ← UInt8.ofNat_toNat (x := c), e]; rfl)
      omega
    · cases h
/-- Digits that do not begin with 0 are the decimal form of what they spell. -/
theorem cdig_dec (l : List UInt8) : ∀ n, F.cdig 0 l = some n → l ≠ [] → (l.head? = some 48 → l.length = 1) → l = Lib.decDigits n := by
  induction hk : l.length generalizing l with
  | zero => intro n _ h0; exact absurd (List.eq_nil_of_length_eq_zero hk) h0
  | succ k ih =>
    intro n h h0 h1
    obtain ⟨l', c, rfl⟩ : ∃ l' c, l = l' ++ [c] := ⟨l.dropLast, l.getLast h0, (List.dropLast_concat_getLast h0).symm⟩
    have hc := cdig_digits _ _ _ h c (by simp)
    obtain ⟨g1, g2⟩ := of_isD hc
    rw [cdig_snoc _ _ _ hc] at h
    have hl : l'.length = k := by simpa using hk
    cases hm : F.cdig 0 l' with
    | none => rw [hm] at h; cases h
    | some m =>
      rw [hm] at h
      simp only [Option.map_some, Option.some.injEq] at h
      by_cases e : l' = []
      · subst e
        have : m = 0 := by simpa [F.cdig] using hm.symm
        subst this
        have hn : n < 10 := by omega
        rw [Lib.decDigits, dif_pos hn, show n = c.toNat - 48 by omega, g1]
        rfl
      · have hne : l'.head? ≠ some 48 := fun q => by
          have := h1 (by
            cases l' with
            | nil => exact absurd rfl e
            | cons a t => simpa using q)
          have h2 : 0 < l'.length := List.length_pos_iff.2 e
          omega
        have hp := cdig_pos hm e hne
        have := ih l' hl m hm e (fun q => absurd q hne)
        rw [Lib.decDigits, dif_neg (by omega), show n / 10 = m by omega, show n % 10 = c.toNat - 48 by omega, g1, ← this]
theorem dec_head (n : Nat) : ∀ c, (Lib.decDigits n).head? = some c → F.isD c = true := fun c hc => by
  have h := (dec_cdig n).1
  have := cdig_digits _ _ _ h c
  cases hl : Lib.decDigits n with
  | nil => rw [hl] at hc; cases hc
  | cons a t =>
    rw [hl] at hc this
    have : a = c := by simpa using hc
    subst this
    apply cdig_digits _ _ _ h a
    rw [hl]
    simp
theorem ct_rc (s : List UInt8) (h : F.ctH s = true) : F.rcH s = true ∧ F.rcN s = F.atN s := by
  unfold F.ctH at h
  unfold F.atN
  cases ha : Lib.atoiAll s with
  | ok v =>
    rw [ha] at h
    simp only [Bool.and_eq_true, decide_eq_true_eq, beq_iff_eq] at h
    obtain ⟨⟨h1, h2⟩, h3⟩ := h
    subst h3
    show F.rcH (Lib.itoa v) = true ∧ F.rcN (Lib.itoa v) = v
    unfold Lib.itoa
    by_cases c : v < 0
    · rw [if_pos c]
      obtain ⟨k, rfl⟩ : ∃ k : Nat, v = -(k : Int) := ⟨v.natAbs, by omega⟩
      rw [show (-(k : Int)).natAbs = k by omega]
      obtain ⟨d1, d2, d3, _, d5⟩ := dec_cdig k
      have n1 : F.isNeg (45 :: Lib.decDigits k) = true := by simp [F.isNeg]
      have b1 : F.body (45 :: Lib.decDigits k) = Lib.decDigits k := by unfold F.body; rw [if_pos n1]; rfl
      have s1 : F.shape (45 :: Lib.decDigits k) = true := by
        unfold F.shape
        rw [b1, decide_eq_false d2, decide_eq_false (show ¬ 10 < (Lib.decDigits k).length by have := d5 9 (by omega); omega), decide_eq_false (d3 (by omega))]
        rfl
      constructor
      · unfold F.rcH
        rw [s1, b1, d1]
        simp only [Bool.true_and, decide_eq_true_eq]
        omega
      · unfold F.rcN
        rw [if_pos s1, b1, d1]
        simp only
        rw [if_pos n1]
    · rw [if_neg c]
      obtain ⟨k, rfl⟩ : ∃ k : Nat, v = (k : Int) := ⟨v.toNat, by omega⟩
      rw [Int.toNat_natCast]
      obtain ⟨d1, d2, d3, d4, d5⟩ := dec_cdig k
      have n1 : F.isNeg (Lib.decDigits k) = false := by
        unfold F.isNeg
        rw [decide_eq_false]
        intro e
        have := dec_head k 45 e
        revert this
        decide
      have b1 : F.body (Lib.decDigits k) = Lib.decDigits k := by unfold F.body; rw [n1]; rfl
      have s1 : F.shape (Lib.decDigits k) = true := by
        unfold F.shape
        rw [b1, decide_eq_false d2, decide_eq_false (show ¬ 10 < (Lib.decDigits k).length by have := d5 9 (by omega); omega)]
        by_cases k0 : k = 0
        · rw [d4 k0]; rfl
        · rw [decide_eq_false (d3 (by omega))]; rfl
      constructor
      · unfold F.rcH
        rw [s1, b1, d1]
        simp only [Bool.true_and, decide_eq_true_eq]
        omega
      · unfold F.rcN
        rw [if_pos s1, b1, d1]
        simp only
        rw [if_neg (by rw [n1]; decide)]
  | _ => rw [ha] at h; cases h
theorem rc_ct (s : List UInt8) (h : F.rcH s = true) : F.ctH s = true := by
  unfold F.rcH at h
  rw [Bool.and_eq_true] at h
  obtain ⟨hs, h⟩ := h
  cases hn : F.cdig 0 (F.body s) with
  | none => rw [hn] at h; cases h
  | some n =>
    rw [hn] at h
    simp only [decide_eq_true_eq] at h
    unfold F.shape at hs
    simp only [Bool.not_eq_true', Bool.or_eq_false_iff, decide_eq_false_iff_not, Bool.and_eq_false_iff] at hs
    obtain ⟨⟨s1, s2⟩, s3⟩ := hs
    have hps : Lib.parseMag (F.body s) = .ok n := by
      unfold Lib.parseMag
      rw [if_neg s1]
      exact cdig_parse _ _ _ hn (by omega)
    cases hng : F.isNeg s with
    | true =>
      obtain ⟨t, rfl⟩ : ∃ t, s = 45 :: t := by
        have e : s.head? = some 45 := of_decide_eq_true hng
        cases s with
        | nil => cases e
        | cons a t => exact ⟨t, by rw [Option.some.inj e]⟩
      have b1 : F.body (45 :: t) = t := by unfold F.body; rw [if_pos hng]; rfl
      rw [b1] at hn hps s1 s2 s3
      have hh : t.head? ≠ some 48 := by
        rcases s3 with h | h
        · exact h
        · exact absurd (by have := List.length_pos_iff.2 s1; rw [List.length_cons]; omega) h
      have hd := cdig_dec t n hn s1 (fun q => absurd q hh)
      have hp := cdig_pos hn s1 hh
      have ha : Lib.atoiAll (45 :: t) = .ok (-(n : Int)) := by
        unfold Lib.atoiAll
        have e45 : (45 : UInt8).toNat = 45 := by decide
        simp only [e45]
        rw [if_pos (by decide), hps]
        simp only
        rw [if_neg (by simp), if_neg (by omega), if_pos trivial]
      unfold F.ctH
      rw [ha]
      simp only [Bool.and_eq_true, decide_eq_true_eq, beq_iff_eq]
      refine ⟨⟨by omega, by omega⟩, ?_⟩
      unfold Lib.itoa
      rw [if_pos (by omega), show (-(n : Int)).natAbs = n by omega, ← hd]
    | false =>
      have b1 : F.body s = s := by unfold F.body; rw [if_neg (by rw [hng]; decide)]
      rw [b1] at hn hps s1 s2 s3
      have hd := cdig_dec s n hn s1 (fun q => by
        rcases s3 with h | h
        · exact absurd q h
        · have := List.length_pos_iff.2 s1
          omega)
      have ha : Lib.atoiAll s = .ok (n : Int) := by
        match s, s1 with
        | c :: r, _ =>
          have hc := cdig_digits _ _ _ hn c (by simp)
          have hc' : 48 ≤ c.toNat ∧ c.toNat ≤ 57 := of_decide_eq_true hc
          unfold Lib.atoiAll
          simp only
          rw [if_neg (by omega), hps]
          simp only
          rw [if_neg (by omega), if_neg (by omega), if_neg (by omega)]
      unfold F.ctH
      rw [ha]
      simp only [Bool.and_eq_true, decide_eq_true_eq, beq_iff_eq]
      refine ⟨⟨by omega, by omega⟩, ?_⟩
      unfold Lib.itoa
      rw [if_neg (by omega), Int.toNat_natCast, ← hd]
theorem ct_eq (s : List UInt8) : F.ctH s = F.rcH s := by
  cases h : F.rcH s with
  | true => exact rc_ct s h
  | false =>
    cases k : F.ctH s with
    | false => rfl
    | true => rw [(ct_rc s k).1] at h; cases h
end Go.Proofs.YtiolfkmkbccndaaGreatDoor
end
section
/- Summaries: internal/stringslite.IndexByte, replay.counter. -/
namespace Go.Proofs.YtiolfkmkbccndaaGreatDoor
open Go.ChangeShapes Go.WideShapes Go.ChangeAt Go.RowKit Sym
set_option maxRecDepth 100000
noncomputable section
set_option maxHeartbeats 1000000 in
theorem indexByte_calls (s : ByteArray) (c : Int) (w : World) :
    Calls Tryz.prog 69 #[.string s, .int .u8 c] w fun e w' => e = .returned (.int .i64 (Lib.indexByte s.data.toList c.toNat.toUInt8)) ∧ w' = w := by
  go_enter Tryz.func69, Tryz.ntmps69
  go_wp2
  rw [run_callFunc_extern Tryz.func86 (by kernel_rfl) (by kernel_rfl) (by kernel_rfl) (e := Extern.BytealgIndexByte.indexByte) (by kernel_rfl), Lib.run_indexByteString]
  simp only [Result.andThen]
  rw [Oper.upon_value]
  go_wp2
  go_ret
  exact ⟨rfl, rfl⟩
/-- Where the first space is; -1: there is none. -/
def F.idx (s : List UInt8) : Int := Lib.indexByte s 32
def s_ixb : Summ cod := fun args _ => match args with
  | [.c (.str s), .c (.int .u8 c)] => .need (c = 32) (.ret (.c (.int .i64 (F.idx s)), []))
  | _ => .fail
theorem ixb_sound : Sound Tryz.prog cod 69 s_ixb := by
  refine Sound.scal (fun args w => enters_fn Tryz.func69 rfl rfl args w) fun args H r news w ht hg => ?_
  unfold s_ixb at hg
  split at hg
  · rename_i s c
    obtain ⟨rfl, hg⟩ := hg
    cases hg
    refine ⟨rfl, rfl, .int .i64 (F.idx s), fun _ _ => rfl, ?_⟩
    refine (indexByte_calls ⟨s.toArray⟩ 32 w).mono ?_
    rintro e w' ⟨rfl, rfl⟩
    exact ⟨rfl, ⟨Below.refl _ _, Nat.le_refl _⟩⟩
  · exact hg.elim
theorem err_cell {w : World} {M : Nat → Prop} (h : TabW w M) {g : Nat} (hg : (g, isErr) ∈ tabs) : ∃ tp p, w.cell? ⟨g, 0, none⟩ = some (.iface tp p) := by
  obtain ⟨⟨cs, ty, tg, h1, tp, p, hcs⟩, _⟩ := h (g, isErr) hg
  subst hcs
  refine ⟨tp, p, ?_⟩
  simp only [World.cell?, h1]
  rfl
def s_ctr : Summ cod := fun args _ => match args with
  | [.c (.str s)] => .need (s.length ≤ 1000000000000) (.ret (.tup [.c (.int .i64 (F.atN s)), .c (.bool (F.ctH s))], []))
  | _ => .fail
theorem ctr_sound : Sound Tryz.prog cod 43 s_ctr := by
  refine Sound.scal (fun args w => enters_fn Tryz.func43 rfl rfl args w) fun args H r news w ht hg => ?_
  unfold s_ctr at hg
  split at hg
  · rename_i s
    obtain ⟨hs, hg⟩ := hg
    cases hg
    refine ⟨rfl, rfl, .tuple #[.int .i64 (F.atN s), .bool (F.ctH s)], fun _ _ => ⟨_, rfl, .cons rfl (.cons rfl .nil)⟩, ?_⟩
    have hsz : (⟨s.toArray⟩ : ByteArray).size = s.length := by simp [ByteArray.size]
    have hb : ∀ {w' : World}, Below w.heap.size w w' → Blw w w' := fun h => ⟨h, Nat.le_refl _⟩
    cases ha : Lib.atoiAll s with
    | ok v =>
      have e1 : F.atN s = v := by unfold F.atN; rw [ha]
      have e2 : F.ctH s = (decide (-1000000000 ≤ v) && decide (v ≤ 1000000000) && (Lib.itoa v == s)) := by unfold F.ctH; rw [ha]
      rw [e1, e2]
      by_cases c : -1000000000 ≤ v ∧ v ≤ 1000000000
      · refine (counter_ok ⟨s.toArray⟩ v (by omega) ha c.1 c.2 w (tab10 ht)).mono ?_
        rintro e w' ⟨rfl, h⟩
        rw [decide_eq_true c.1, decide_eq_true c.2, Bool.true_and, Bool.true_and, Lib.toList_data]
        exact ⟨rfl, hb h⟩
      · refine (counter_out ⟨s.toArray⟩ v (by omega) ha (by omega) w).mono ?_
        rintro e w' ⟨rfl, h⟩
        have e3 : (decide (-1000000000 ≤ v) && decide (v ≤ 1000000000) && (Lib.itoa v == s)) = false := by
          rw [← Bool.decide_and, decide_eq_false c, Bool.false_and]
        rw [e3]
        exact ⟨rfl, hb h⟩
    | range =>
      have e1 : F.atN s = Lib.atoiSat s := by unfold F.atN; rw [ha]
      have e2 : F.ctH s = false := by unfold F.ctH; rw [ha]
      rw [e1, e2]
      obtain ⟨tp, p, hc⟩ := err_cell ht (g := 5) (by simp [tabs])
      refine (counter_ran ⟨s.toArray⟩ (by omega) ha _ w hc (.inr ⟨tp, p, rfl⟩)).mono ?_
      rintro e w' ⟨rfl, h⟩
      exact ⟨rfl, hb h⟩
    | _ =>
      have e1 : F.atN s = 0 := by unfold F.atN; rw [ha]
      have e2 : F.ctH s = false := by unfold F.ctH; rw [ha]
      rw [e1, e2]
      obtain ⟨tp, p, hc⟩ := err_cell ht (g := 4) (by simp [tabs])
      refine (counter_syn ⟨s.toArray⟩ (by omega) ha _ w hc (.inr ⟨tp, p, rfl⟩)).mono ?_
      rintro e w' ⟨rfl, h⟩
      exact ⟨rfl, hb h⟩
  · exact hg.elim
end
end Go.Proofs.YtiolfkmkbccndaaGreatDoor
end
