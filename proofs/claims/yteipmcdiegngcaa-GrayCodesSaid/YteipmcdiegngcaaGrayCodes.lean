/- skywaylaw2.GrayCodes returns true at every input: Encode and Decode return what the reference's table of Gray codes contains. No condition. -/
import Derived.Test.YteipmcdiegngcaaGrayB
import Derived.Test.YteipmcdiegngcaaLift
namespace Go.Proofs.Yteipmcdiegngcaa.B
open Go.ChangeShapes Go.WideShapes Go.ChangeAt Go.RowKit

theorem enc0 (w : World) : Calls Try.prog 8 #[.int .i64 0] w fun e w' => e = .returned (.tuple #[.int .i64 15, .int .i64 0]) ∧ w = w' := encode_yes 0 (by omega) (by omega) w

/-- Decode, whatever it returns. -/
def DR (c : Int) (a b : Int) : Prop := (0 ≤ c ∧ c ≤ 4095 ∧ Value.tuple #[.int .i64 a, .int .i64 b] = decRes (dec c.toNat)) ∨ (¬ (0 ≤ c ∧ c ≤ 4095) ∧ a = 0 ∧ b = 4)
theorem decode_gen (c : Int) (w : World) : Calls Try.prog 11 #[.int .i64 c] w fun e w' => ∃ a b : Int, e = .returned (.tuple #[.int .i64 a, .int .i64 b]) ∧ Hid (DR c a b) ∧ w = w' := by
  by_cases h : 0 ≤ c ∧ c ≤ 4095
  · obtain ⟨k, rfl⟩ := Int.eq_ofNat_of_zero_le h.1
    refine (decode_yes k (by omega) w).mono fun e w' ⟨he, hw⟩ => ?_
    by_cases hc : 60000 < (dec k : Int) * 100 - 1000
    · exact ⟨0, 8, by rw [he, decRes, if_pos hc], .inl ⟨h.1, h.2, by rw [Int.toNat_natCast, decRes, if_pos hc]⟩, hw⟩
    · exact ⟨_, 0, by rw [he, decRes, if_neg hc], .inl ⟨h.1, h.2, by rw [Int.toNat_natCast, decRes, if_neg hc]⟩, hw⟩
  · exact (decode_no c h w).mono fun e w' ⟨he, hw⟩ => ⟨0, 4, he, .inr ⟨h, rfl, rfl⟩, hw⟩

set_option maxRecDepth 100000 in
set_option maxHeartbeats 1000000 in
theorem walk (height code : Int) (w : World) :
    Calls Try.prog 4 #[.int .i64 height, .int .i64 code] w fun e w' => e = .returned (.bool true) ∧ Below w.heap.size w w' := by
  go_enter Try.func4, Try.ntmps4
  go_wp2_with fail
  refine (enc0 w).mono ?_
  rintro e w1 ⟨rfl, rfl⟩
  go_wp2_with fail
  refine (grays_any w).mono ?_
  rintro e w1 ⟨g, cap, rfl, hown, hbel⟩
  by_cases hh : -1000 ≤ height ∧ height ≤ 60000
  · obtain ⟨hh0, hh1⟩ := hh
    go_wp2_with fail
    refine (encode_yes height hh0 hh1 w1).mono ?_
    rintro e w2 ⟨rfl, rfl⟩
    have hdiv0 : 0 ≤ (height + 1000) / 100 := by omega
    have hdiv1 : (height + 1000) / 100 < 4096 := by omega
    have hcell : w1.cell? ⟨g, ((height + 1000) / 100).toNat, none⟩ = some (.int .i64 (gray ((height + 1000) / 100).toNat : Nat)) := by
      rw [hown.cellAt _ (by omega)]
      exact vals_get _ _ _ (tab12_get _ (by omega))
    go_wp2_with (first | (go_at_call 7; refine (in_yes _ _ _ ⟨hh0, hh1⟩ _).mono ?_; rintro e w' ⟨rfl, rfl⟩) | (go_at_call 10; refine (down_any _ _ (by omega) (by omega) (by omega) (by omega) _).mono ?_; rintro e w' ⟨rfl, rfl⟩))
    refine (decode_gen code w1).mono ?_
    rintro e w2 ⟨a, b, rfl, HD, rfl⟩
    by_cases hc : 0 ≤ code ∧ code ≤ 4095
    · obtain ⟨c, rfl⟩ := Int.eq_ofNat_of_zero_le hc.1
      obtain ⟨hc0, hc1⟩ := hc
      obtain ⟨_, _, HE⟩ | ⟨hn, _⟩ := HD.out
      · rw [Int.toNat_natCast] at HE
        have hgd := (dec_facts c (by omega)).2.2.1
        have hdl := (dec_facts c (by omega)).2.2.2
        replace HE := Lib.hid HE
        have Hgd := Lib.hid hgd
        have Hown := Lib.hid hown
        clear hgd hown HD
        go_wp2_with (go_at_call 7; refine (in_yes _ _ _ ⟨hc0, hc1⟩ _).mono ?_; rintro e w' ⟨rfl, rfl⟩)


        go_loop [66] (fun i => ∃ k : Nat, k ≤ dec c ∧ i = .int .i64 k) (fun i => 4096 - (intOf i).toNat)
        case atStart => exact ⟨0, by omega, rfl⟩
        case round =>
          obtain ⟨k, hk, rfl⟩ := hrel
          have hcell : w1.cell? ⟨g, k, none⟩ = some (.int .i64 (gray k : Nat)) := by
            rw [Hown.out.cellAt _ (by omega)]
            exact vals_get _ _ _ (tab12_get _ (by omega))
          by_cases hkd : k = dec c
          · have hgk : gray k = c := by rw [hkd]; exact Hgd.out
            rw [hgk] at hcell
            have HE2 := HE.out
            rw [← hkd] at HE2
            clear hgk
            have Hkd := Lib.hid hkd
            clear hkd
            by_cases hb : 60000 < (k : Int) * 100 - 1000
            · rw [decRes, if_pos hb] at HE2
              have h2 : a = 0 ∧ b = 8 := by simpa using HE2
              obtain ⟨rfl, rfl⟩ := h2
              clear HE2
              go_wp2
              go_ret
              exact ⟨rfl, hbel⟩
            · rw [decRes, if_neg hb] at HE2
              have h2 : a = (k : Int) * 100 - 1000 ∧ b = 0 := by simpa using HE2
              obtain ⟨rfl, rfl⟩ := h2
              clear HE2
              go_wp2
              go_ret
              exact ⟨by simp only [Array.getD_eq_getD_getElem?, List.getElem?_toArray, List.getElem?_cons_succ, List.getElem?_cons_zero, Option.getD_some]; rw [show (k : Int) * 100 - 1000 = 100 * k - 1000 by omega]; simp, hbel⟩
          · have hne : ((gray k : Nat) : Int) ≠ (c : Int) := by
              intro h
              have h2 : gray k = c := by omega
              exact hkd (by rw [← h2]; exact (dec_facts k (by omega)).1.symm)
            have hne' : (((gray k : Nat) : Int) == (c : Int)) = false := by simpa using hne
            have Hkd := Lib.hid hkd
            clear hne hkd
            go_wp2
            go_round
            case rel => exact ⟨k + 1, by have := Hkd.out; omega, by go_num⟩
            case measure => simp [intOf]; omega
      · omega
    · obtain ⟨h1, h2, _⟩ | ⟨_, rfl, rfl⟩ := HD.out
      · omega
      · go_wp2_with (go_at_call 7; refine (in_no _ _ _ hc _).mono ?_; rintro e w' ⟨rfl, rfl⟩)
        go_ret
        exact ⟨rfl, hbel⟩
  · go_wp2_with fail
    refine (encode_no height hh w1).mono ?_
    rintro e w2 ⟨rfl, rfl⟩
    go_wp2_with (go_at_call 7; refine (in_no _ _ _ hh _).mono ?_; rintro e w' ⟨rfl, rfl⟩)
    refine (decode_gen code w1).mono ?_
    rintro e w2 ⟨a, b, rfl, HD, rfl⟩
    by_cases hc : 0 ≤ code ∧ code ≤ 4095
    · obtain ⟨c, rfl⟩ := Int.eq_ofNat_of_zero_le hc.1
      obtain ⟨hc0, hc1⟩ := hc
      obtain ⟨_, _, HE⟩ | ⟨hn, _⟩ := HD.out
      · rw [Int.toNat_natCast] at HE
        have hgd := (dec_facts c (by omega)).2.2.1
        have hdl := (dec_facts c (by omega)).2.2.2
        replace HE := Lib.hid HE
        have Hgd := Lib.hid hgd
        have Hown := Lib.hid hown
        clear hgd hown HD
        go_wp2_with (go_at_call 7; refine (in_yes _ _ _ ⟨hc0, hc1⟩ _).mono ?_; rintro e w' ⟨rfl, rfl⟩)


        go_loop [66] (fun i => ∃ k : Nat, k ≤ dec c ∧ i = .int .i64 k) (fun i => 4096 - (intOf i).toNat)
        case atStart => exact ⟨0, by omega, rfl⟩
        case round =>
          obtain ⟨k, hk, rfl⟩ := hrel
          have hcell : w1.cell? ⟨g, k, none⟩ = some (.int .i64 (gray k : Nat)) := by
            rw [Hown.out.cellAt _ (by omega)]
            exact vals_get _ _ _ (tab12_get _ (by omega))
          by_cases hkd : k = dec c
          · have hgk : gray k = c := by rw [hkd]; exact Hgd.out
            rw [hgk] at hcell
            have HE2 := HE.out
            rw [← hkd] at HE2
            clear hgk
            have Hkd := Lib.hid hkd
            clear hkd
            by_cases hb : 60000 < (k : Int) * 100 - 1000
            · rw [decRes, if_pos hb] at HE2
              have h2 : a = 0 ∧ b = 8 := by simpa using HE2
              obtain ⟨rfl, rfl⟩ := h2
              clear HE2
              go_wp2
              go_ret
              exact ⟨rfl, hbel⟩
            · rw [decRes, if_neg hb] at HE2
              have h2 : a = (k : Int) * 100 - 1000 ∧ b = 0 := by simpa using HE2
              obtain ⟨rfl, rfl⟩ := h2
              clear HE2
              go_wp2
              go_ret
              exact ⟨by simp only [Array.getD_eq_getD_getElem?, List.getElem?_toArray, List.getElem?_cons_succ, List.getElem?_cons_zero, Option.getD_some]; rw [show (k : Int) * 100 - 1000 = 100 * k - 1000 by omega]; simp, hbel⟩
          · have hne : ((gray k : Nat) : Int) ≠ (c : Int) := by
              intro h
              have h2 : gray k = c := by omega
              exact hkd (by rw [← h2]; exact (dec_facts k (by omega)).1.symm)
            have hne' : (((gray k : Nat) : Int) == (c : Int)) = false := by simpa using hne
            have Hkd := Lib.hid hkd
            clear hne hkd
            go_wp2
            go_round
            case rel => exact ⟨k + 1, by have := Hkd.out; omega, by go_num⟩
            case measure => simp [intOf]; omega
      · omega
    · obtain ⟨h1, h2, _⟩ | ⟨_, rfl, rfl⟩ := HD.out
      · omega
      · go_wp2_with (go_at_call 7; refine (in_no _ _ _ hc _).mono ?_; rintro e w' ⟨rfl, rfl⟩)
        go_ret
        exact ⟨rfl, hbel⟩

theorem walkA {H : Type} {enc : TypeId × Value → H} (W : World) (args : Array Value) (ds : List (DataW H)) (p : List MemPlace) (h : Lift.Args enc Try.prog Try.f4 W args ds p) :
    Calls Try.prog 4 args W fun e W' => e = .returned (.bool true) ∧ Below W.heap.size W W' := by
  obtain ⟨hval, hA, _, _, _⟩ := h
  rw [Try.params4] at hA hval
  obtain ⟨v0, vs0, d0, ds0, p0, q0, hargs, rfl, rfl, h0, r0⟩ := trodAll_cons hA
  obtain ⟨v1, vs1, d1, ds1, p1, q1, rfl, rfl, rfl, h1, r1⟩ := trodAll_cons r0
  obtain ⟨rfl, rfl, rfl⟩ := trodAll_nil r1
  obtain rfl : args = #[v0, v1] := by cases args; simp_all
  obtain ⟨_, b0⟩ := hval 0 3 v0 rfl rfl
  obtain ⟨_, b1⟩ := hval 1 3 v1 rfl rfl
  obtain ⟨a0, rfl, rfl, rfl, w0⟩ := open_int Try.underlying3 b0 h0
  obtain ⟨a1, rfl, rfl, rfl, w1⟩ := open_int Try.underlying3 b1 h1
  exact walk a0 a1 W


set_option maxRecDepth 100000 in
theorem lifted (os : Os) (started : os.Started) (H : Type) (enc : TypeId × Value → H) :
    ReturnsInHanded {} Try.checked os 4 .any (Rows.grayCodesSpec.pre6 enc Try.prog Try.f4 [] false) (Rows.grayCodesSpec.post enc Try.prog Try.f4 false true false false) :=
  Lift.law (C := Try.checked) (tb := 4) (by kernel_rfl) started (by kernel_rfl) Try.func4
    (ChangeSpec.witness6 (enc := enc) (C := Try.checked) false ⟨#[], #[.int .i64 0, .int .i64 0], []⟩ 8 (by kernel_rfl) (by kernel_rfl) (by kernel_rfl) (by kernel_rfl))
    rfl rfl Try.underlying4 (by kernel_rfl) (by kernel_rfl)
    (by intro ds hds; rw [Try.params4] at hds; simp only [List.length_cons, List.length_nil] at hds; match ds, hds with | [_, _], _ => rfl)
    (fun W args ds p h => walkA W args ds p h)

theorem over : Rows.grayCodesRow.holds Try.pinned (OpenSpec.ofChange Rows.grayCodesSpec) :=
  OpenClaim.holds_of_wide 4 Try.f4 rfl rfl rfl rfl rfl rfl rfl ⟨rfl, rfl, rfl, rfl, rfl⟩ rfl rfl rfl rfl rfl (by kernel_rfl) Try.func4 (by kernel_rfl)
    (of_decide_eq_true (by kernel_rfl)) (by unfold Func.isWrapper; first | (rw [if_pos (by decide +kernel)]; kernel_rfl) | (rw [if_neg (by decide +kernel)]; exact ⟨rfl, rfl⟩))
    (fun os started H enc _ => lifted os started H enc)

/-- THE STATEMENT -/
theorem proved : Rows.GrayCodesSaid := over
#print axioms proved

end Go.Proofs.Yteipmcdiegngcaa.B
