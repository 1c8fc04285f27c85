/- skywaylaw2.GrayOctals returns true at every input: Octal and Read are inverse to each other, and Read takes four octal digits only. No condition. -/
import Derived.Test.YteipmcdiegngcaaGrayA
import Derived.Test.YteipmcdiegngcaaLift
namespace Go.Proofs.Yteipmcdiegngcaa
open Go.ChangeShapes Go.WideShapes Go.ChangeAt Go.RowKit
open Go.ChangeMaps (open_string shut_string)

theorem read_ok (s : ByteArray) (h : okL s.data.toList = true) (w : World) : Calls Try.prog 6 #[.string s] w fun e w' => e = .returned (.tuple #[.int .i64 (val s.data.toList), .int .i64 0]) ∧ w = w' :=
  (read_any s w).mono fun _ _ ⟨he, hw⟩ => ⟨by rw [he, readRes, h]; rfl, hw⟩
theorem read_no (s : ByteArray) (h : okL s.data.toList = false) (w : World) : Calls Try.prog 6 #[.string s] w fun e w' => e = .returned (.tuple #[.int .i64 0, .int .i64 5]) ∧ w = w' :=
  (read_any s w).mono fun _ _ ⟨he, hw⟩ => ⟨by rw [he, readRes, h]; rfl, hw⟩

def vm (l : List UInt8) : Int := l.foldl (fun v c => (v * 8 + ((c.toNat : Int) - 48) % 256 % 8) % 4096) 0
theorem vm_snoc (l : List UInt8) (c : UInt8) : vm (l ++ [c]) = (vm l * 8 + ((c.toNat : Int) - 48) % 256 % 8) % 4096 := by simp [vm]
theorem vm_bd (l : List UInt8) : 0 ≤ vm l ∧ vm l < 4096 := by
  rcases List.eq_nil_or_concat l with rfl | ⟨m, c, rfl⟩
  · simp [vm]
  · rw [List.concat_eq_append, vm_snoc]; omega
theorem vm_val : ∀ (k : Nat) (l : List UInt8), l.length = k → k ≤ 4 → l.all oct = true → vm l = val l
  | 0, [], _, _, _ => rfl
  | k + 1, l, hl, hk, ho => by
    have hne : l ≠ [] := by intro h; simp [h] at hl
    have hb := val_bd (k + 1) l hl ho
    have h8 : (8 : Int) ^ (k + 1) ≤ 4096 := by
      have : (8:Int)^(k + 1) ≤ 8^4 := by exact_mod_cast Nat.pow_le_pow_right (by omega) (by omega)
      simpa using this
    rw [← List.dropLast_concat_getLast hne] at ho hb ⊢
    rw [val_snoc] at hb
    rw [vm_snoc, val_snoc]
    simp [oct] at ho
    have ih := vm_val k l.dropLast (by simp; omega) (by omega) (by simpa [oct] using ho.1)
    have := ho.2
    rw [ih]
    omega


def okT (n : Nat) (l : List UInt8) : Bool := decide (n = 4) && l.all oct
theorem okT_snoc (n : Nat) (l : List UInt8) (c : UInt8) : okT n (l ++ [c]) = (okT n l && oct c) := by simp [okT, Bool.and_assoc]

def RR (l : List UInt8) (a b : Int) : Prop := (okL l = true ∧ a = val l ∧ b = 0) ∨ (okL l = false ∧ a = 0 ∧ b = 5)
theorem read_gen (s : ByteArray) (w : World) : Calls Try.prog 6 #[.string s] w fun e w' => ∃ a b : Int, e = .returned (.tuple #[.int .i64 a, .int .i64 b]) ∧ Hid (RR s.data.toList a b) ∧ w = w' :=
  (read_any s w).mono fun _ _ ⟨he, hw⟩ => by
    cases h : okL s.data.toList
    · exact ⟨0, 5, by rw [he, readRes, h]; rfl, .inr ⟨h, rfl, rfl⟩, hw⟩
    · exact ⟨_, 0, by rw [he, readRes, h]; rfl, .inl ⟨h, rfl, rfl⟩, hw⟩

theorem digits_size (n : Int) : (strOfNums (digits n)).size = 4 := rfl
theorem read_digits (n : Int) (h0 : 0 ≤ n) (h1 : n ≤ 4095) (w : World) : Calls Try.prog 6 #[.string (strOfNums (digits n))] w fun e w' => e = .returned (.tuple #[.int .i64 n, .int .i64 0]) ∧ w = w' := by
  have e : (strOfNums (digits n)).data.toList = (digits n).map fun k => UInt8.ofNat k.toNat := by simp [strOfNums]
  have hn : ∀ k : Int, 0 ≤ k → k < 8 → ((UInt8.ofNat (48 + k).toNat).toNat : Int) = 48 + k := fun k a b => by
    simp [UInt8.toNat_ofNat']; omega
  have a1 := hn (n / 512) (by omega) (by omega)
  have a2 := hn (n / 64 % 8) (by omega) (by omega)
  have a3 := hn (n / 8 % 8) (by omega) (by omega)
  have a4 := hn (n % 8) (by omega) (by omega)
  have hv : val (strOfNums (digits n)).data.toList = n := by
    rw [e]; simp only [digits, val, List.map_cons, List.map_nil, List.foldl_cons, List.foldl_nil, a1, a2, a3, a4]; omega
  have ho : okL (strOfNums (digits n)).data.toList = true := by
    rw [e]; simp only [okL, digits, List.map_cons, List.map_nil, List.all_cons, List.all_nil, oct, a1, a2, a3, a4, Bool.and_eq_true, decide_eq_true_eq]
    refine ⟨rfl, ?_, ?_, ?_, ?_, trivial⟩ <;> omega
  have := read_ok _ ho w
  rw [hv] at this
  exact this

theorem walk (code : Int) (s : ByteArray) (hs : s.size ≤ maxLen) (w : World) :
    Calls Try.prog 3 #[.int .i64 code, .string s] w fun e w' => e = .returned (.bool true) ∧ Below w.heap.size w w' := by
  unfold maxLen at hs
  have H77 := Lib.hid (show strOfNums (digits 4032) = ⟨#[55, 55, 48, 48]⟩ by decide)
  go_enter Try.func3, Try.ntmps3
  go_wp2_with fail
  refine (octal_ok 4032 (by omega) (by omega) w).mono ?_
  rw [H77.out]
  rintro e w1 ⟨rfl, hg⟩
  go_wp2_with (go_at_call 6; refine (read_gen s _).mono ?_; rintro e w' ⟨a, b, rfl, HR, rfl⟩)
  go_loop [9, 10, 36] (fun v ok i => ∃ k : Nat, k ≤ s.size ∧ i = .int .i64 k ∧ v = .int .i64 (vm (s.data.toList.take k)) ∧ ok = .bool (okT s.size (s.data.toList.take k))) (fun _ _ i => s.size - (intOf i).toNat)
  case atStart => exact ⟨0, by omega, rfl, rfl, by simp [okT]; rw [Bool.eq_iff_iff]; simp; try omega⟩
  case round =>
    obtain ⟨k, hk, rfl, rfl, rfl⟩ := hrel
    by_cases hlt : k < s.size
    · have Hs := Lib.hid (take_snoc s k hlt)
      obtain ⟨hb0, hb1⟩ := vm_bd (s.data.toList.take k)
      have e7 := and7 (((s[k].toNat : Int) - 48) % 256) (by omega) (by omega)
      have hu := s[k].toNat_lt
      generalize hv : vm (s.data.toList.take k) = V at *
      have Hv := Lib.hid hv
      clear hv
      generalize ho : okT s.size (s.data.toList.take k) = O at *
      have Ho := Lib.hid ho
      clear ho
      cases O
      · go_wp2
        go_roundw
        case rel => exact ⟨k + 1, by omega, by go_num, by rw [Hs.out, vm_snoc, Hv.out]; go_num, by rw [Hs.out, okT_snoc, Ho.out]; rfl⟩
        case measure => simp [intOf]; omega
      · go_wp2_with (go_at_call 7; refine (in_any _ _ _ _).mono ?_; rintro e w' ⟨rfl, rfl⟩)
        go_roundw
        case rel => exact ⟨k + 1, by omega, by go_num, by rw [Hs.out, vm_snoc, Hv.out]; go_num, by rw [Hs.out, okT_snoc, Ho.out]; simp [oct, wrap64]; try omega⟩
        case measure => simp [intOf]; omega
    · have hks : k = s.size := by omega
      subst hks
      have hf : s.data.toList.take s.size = s.data.toList := List.take_of_length_le (by simp)
      have hoe : okT s.size s.data.toList = okL s.data.toList := by simp [okT, okL]
      rw [hf, hoe]
      clear hf hoe
      have hvv : okL s.data.toList = true → vm s.data.toList = val s.data.toList := fun h => vm_val _ _ (by simp [okL] at h; simpa using h.1) (by simp [okL] at h; omega) (by simp [okL] at h; simpa using h.2)
      have Hvv := Lib.hid hvv
      clear hvv
      rcases HR.out with ⟨h, rfl, rfl⟩ | ⟨h, rfl, rfl⟩
      all_goals first | rw [Hvv.out h, h] | rw [h]
      all_goals
        have H := Lib.hid h
        clear h
        clear Hvv HR
        by_cases hc : 0 ≤ code ∧ code ≤ 4095
        · obtain ⟨hc0, hc1⟩ := hc
          go_wp2_with fail
          refine (octal_ok code hc0 hc1 _).mono ?_
          rintro e w2 ⟨rfl, hg2⟩
          go_wp2_with (first | (go_at_call 7; refine (in_yes _ _ _ ⟨hc0, hc1⟩ _).mono ?_; rintro e w' ⟨rfl, rfl⟩) | (go_at_call 6; refine (read_digits code hc0 hc1 _).mono ?_; rintro e w' ⟨rfl, rfl⟩))
          go_returns
          exact ⟨rfl, hg.trans (hg2.mono hg.size)⟩
        · have hc' : code < 0 ∨ 4095 < code := by omega
          go_wp2_with fail
          refine (octal_no code hc' _).mono ?_
          rintro e w2 ⟨rfl, rfl⟩
          go_wp2_with (go_at_call 7; refine (in_no _ _ _ hc _).mono ?_; rintro e w' ⟨rfl, rfl⟩)
          go_returns
          exact ⟨rfl, hg⟩

theorem walkA {H : Type} {enc : TypeId × Value → H} (W : World) (args : Array Value) (ds : List (DataW H)) (p : List MemPlace) (h : Lift.Args enc Try.prog Try.f3 W args ds p) :
    Calls Try.prog 3 args W fun e W' => e = .returned (.bool true) ∧ Below W.heap.size W W' := by
  obtain ⟨hval, hA, _, _, _⟩ := h
  rw [Try.params3] at hA hval
  obtain ⟨v0, vs0, d0, ds0, p0, q0, hargs, rfl, rfl, h0, r0⟩ := trodAll_cons hA
  obtain ⟨v1, vs1, d1, ds1, p1, q1, rfl, rfl, rfl, h1, r1⟩ := trodAll_cons r0
  obtain ⟨rfl, rfl, rfl⟩ := trodAll_nil r1
  obtain rfl : args = #[v0, v1] := by cases args; simp_all
  obtain ⟨_, b0⟩ := hval 0 3 v0 rfl rfl
  obtain ⟨_, b1⟩ := hval 1 9 v1 rfl rfl
  obtain ⟨a0, rfl, rfl, rfl, w0⟩ := open_int Try.underlying3 b0 h0
  obtain ⟨a1, rfl, rfl, rfl, w1⟩ := open_string Try.underlying9 b1 h1
  exact walk a0 a1 w1 W


set_option maxRecDepth 100000 in
theorem lifted (os : Os) (started : os.Started) (H : Type) (enc : TypeId × Value → H) :
    ReturnsInHanded {} Try.checked os 3 .any (Rows.grayOctalsSpec.pre6 enc Try.prog Try.f3 [] false) (Rows.grayOctalsSpec.post enc Try.prog Try.f3 false true false false) :=
  Lift.law (C := Try.checked) (tb := 4) (by kernel_rfl) started (by kernel_rfl) Try.func3
    (ChangeSpec.witness6 (enc := enc) (C := Try.checked) false ⟨#[], #[.int .i64 0, .string ByteArray.empty], []⟩ 8 (by kernel_rfl) (by kernel_rfl) (by kernel_rfl) (by kernel_rfl))
    rfl rfl Try.underlying4 (by kernel_rfl) (by kernel_rfl)
    (by intro ds hds; rw [Try.params3] at hds; simp only [List.length_cons, List.length_nil] at hds; match ds, hds with | [_, _], _ => rfl)
    (fun W args ds p h => walkA W args ds p h)

theorem over : Rows.grayOctalsRow.holds Try.pinned (OpenSpec.ofChange Rows.grayOctalsSpec) :=
  OpenClaim.holds_of_wide 3 Try.f3 rfl rfl rfl rfl rfl rfl rfl ⟨rfl, rfl, rfl, rfl, rfl⟩ rfl rfl rfl rfl rfl (by kernel_rfl) Try.func3 (by kernel_rfl)
    (of_decide_eq_true (by kernel_rfl)) (by unfold Func.isWrapper; first | (rw [if_pos (by decide +kernel)]; kernel_rfl) | (rw [if_neg (by decide +kernel)]; exact ⟨rfl, rfl⟩))
    (fun os started H enc _ => lifted os started H enc)

/-- THE STATEMENT -/
theorem proved : Rows.GrayOctalsSaid := over
#print axioms proved

end Go.Proofs.Yteipmcdiegngcaa
