/- Parts of the proof, one behind the other: Tm, StQ. -/
import Derived.WalkKit
import Derived.ProofKit
import Derived.OpenShut
import Derived.ShutString
import Derived.WalkSpells
import Derived.WalkLawsBesides
import Derived.Handy
import Derived.Deep.QuietTactic
import Derived.BigQuiet
import Derived.Lib.Hide
import Derived.Lib.SmallJoins
import Derived.Deep.Slices
import Derived.Deep.Fields
import Derived.ChangeSame
import Derived.Deep.RegionHeld3
import Derived.StillTailTactics
import Derived.Lib.Walk
import Derived.Test.YtkfkfihjdohjfaaBd38
import Derived.Test.YtkfkfihjdohjfaaRowW
import Derived.Test.YtkfkfihjdohjfaaTg
section
/- skywaylaw4.moved, in its own text: it writes one cell of the row, or nothing. -/
namespace Go.Proofs.Ytkfkfihjdohjfaa
open Go.ChangeShapes Go.WideShapes Go.ChangeAt Go.RowKit RowW
set_option maxHeartbeats 8000000
set_option maxRecDepth 100000 in
theorem moved_four (A : Option Addr) (n0 cap : Nat) (k b n : Int) (w : World) (hb : ¬ (0 ≤ b ∧ b ≤ 3)) :
    Calls Try.prog 14 #[.slice A n0 cap, .int .i64 k, .int .i64 b, .int .i64 n] w fun e w' => e = .returned (.int .i64 4) ∧ w' = w := by
  go_enter Try.func14, Try.ntmps14
  go_wp2_with (go_at_call 10; refine (in4_no b 0 3 hb _).mono ?_; rintro e w' ⟨rfl, rfl⟩)
  go_ret
  exact ⟨rfl, rfl⟩
set_option maxRecDepth 100000 in
theorem moved_eight (A : Option Addr) (n0 cap : Nat) (k b n : Int) (w : World) (hb : 0 ≤ b ∧ b ≤ 3) (hk : k < 0) :
    Calls Try.prog 14 #[.slice A n0 cap, .int .i64 k, .int .i64 b, .int .i64 n] w fun e w' => e = .returned (.int .i64 8) ∧ w' = w := by
  go_enter Try.func14, Try.ntmps14
  go_wp2_with (go_at_call 10; refine (in4_yes b 0 3 hb _).mono ?_; rintro e w' ⟨rfl, rfl⟩)
  go_ret
  exact ⟨rfl, rfl⟩
set_option maxRecDepth 100000 in
theorem moved_eleven (g n0 cap : Nat) (j : Nat) (b n x : Int) (w : World) (hb : 0 ≤ b ∧ b ≤ 3) (hk : j < n0) (hx : 0 ≤ x ∧ x ≤ 3) (hc : w.cell? ⟨g, j * 5 + 4, none⟩ = some (.int .i64 x))
    (hw : ¬ (10 * x + b = 1) ∧ ¬ (10 * x + b = 12) ∧ ¬ (10 * x + b = 13) ∧ ¬ (10 * x + b = 21) ∧ ¬ (10 * x + b = 23)) :
    Calls Try.prog 14 #[.slice (some ⟨g, 0, none⟩) n0 cap, .int .i64 (j : Int), .int .i64 b, .int .i64 n] w fun e w' => e = .returned (.int .i64 11) ∧ w' = w := by
  have hx' : x = 0 ∨ x = 1 ∨ x = 2 ∨ x = 3 := by omega
  have hb' : b = 0 ∨ b = 1 ∨ b = 2 ∨ b = 3 := by omega
  clear hx hb
  rcases hx' with rfl | rfl | rfl | rfl <;> rcases hb' with rfl | rfl | rfl | rfl <;> first | (exfalso; omega) | clear hw
  all_goals
    (have hj : (j : Int) < (n0 : Int) := by omega
     go_enter Try.func14, Try.ntmps14
     go_wp2_with (go_at_call 10; refine (in4_yes _ 0 3 (by decide) _).mono ?_; rintro e w' ⟨rfl, rfl⟩)
     go_ret
     exact ⟨rfl, rfl⟩)
set_option maxRecDepth 100000 in
theorem moved_nine (g n0 cap : Nat) (j : Nat) (b x : Int) (w : World) (hb : 0 ≤ b ∧ b ≤ 3) (hk : j < n0) (hx : 0 ≤ x ∧ x ≤ 3) (hc : w.cell? ⟨g, j * 5 + 4, none⟩ = some (.int .i64 x))
    (hw : 10 * x + b = 1 ∨ 10 * x + b = 12 ∨ 10 * x + b = 13 ∨ 10 * x + b = 21 ∨ 10 * x + b = 23) :
    Calls Try.prog 14 #[.slice (some ⟨g, 0, none⟩) n0 cap, .int .i64 (j : Int), .int .i64 b, .int .i64 16] w fun e w' => e = .returned (.int .i64 9) ∧ w' = w := by
  have hx' : x = 0 ∨ x = 1 ∨ x = 2 ∨ x = 3 := by omega
  have hb' : b = 0 ∨ b = 1 ∨ b = 2 ∨ b = 3 := by omega
  clear hx hb
  rcases hx' with rfl | rfl | rfl | rfl <;> rcases hb' with rfl | rfl | rfl | rfl <;> first | (exfalso; omega) | clear hw
  all_goals
    (have hj : (j : Int) < (n0 : Int) := by omega
     go_enter Try.func14, Try.ntmps14
     go_wp2_with (go_at_call 10; refine (in4_yes _ 0 3 (by decide) _).mono ?_; rintro e w' ⟨rfl, rfl⟩)
     go_ret
     exact ⟨rfl, rfl⟩)
set_option maxRecDepth 100000 in
theorem moved_zero (g n0 cap : Nat) (j : Nat) (b n x : Int) (w : World) (hb : 0 ≤ b ∧ b ≤ 3) (hk : j < n0) (hx : 0 ≤ x ∧ x ≤ 3) (hc : w.cell? ⟨g, j * 5 + 4, none⟩ = some (.int .i64 x)) (hf : w.frozen? ⟨g, j * 5 + 4, none⟩ = false)
    (hw : 10 * x + b = 1 ∨ 10 * x + b = 12 ∨ 10 * x + b = 13 ∨ 10 * x + b = 21 ∨ 10 * x + b = 23) (hn : (n == 16) = false) :
    Calls Try.prog 14 #[.slice (some ⟨g, 0, none⟩) n0 cap, .int .i64 (j : Int), .int .i64 b, .int .i64 n] w fun e w' => e = .returned (.int .i64 0) ∧ w' = w.setCell ⟨g, j * 5 + 4, none⟩ (.int .i64 b) := by
  have hx' : x = 0 ∨ x = 1 ∨ x = 2 ∨ x = 3 := by omega
  have hb' : b = 0 ∨ b = 1 ∨ b = 2 ∨ b = 3 := by omega
  clear hx hb
  rcases hx' with rfl | rfl | rfl | rfl <;> rcases hb' with rfl | rfl | rfl | rfl <;> first | (exfalso; omega) | clear hw
  all_goals
    (have hj : (j : Int) < (n0 : Int) := by omega
     go_enter Try.func14, Try.ntmps14
     go_wp2_with (go_at_call 10; refine (in4_yes _ 0 3 (by decide) _).mono ?_; rintro e w' ⟨rfl, rfl⟩)
     go_ret
     exact ⟨rfl, rfl⟩)
end Go.Proofs.Ytkfkfihjdohjfaa
end
section
/- What the board's operations keep: no flight twice, bays that are not too full. -/
namespace Go.Proofs.Ytkfkfihjdohjfaa
open Sym Go.RowKit
set_option maxRecDepth 100000
structure F.Inv (l : List F.St) : Prop where
  d : F.dst l
  t : F.tmO l
  b : F.byO l
  n : ∀ x : Int, F.cnt l x ≤ 16
theorem inv_nil : F.Inv [] := ⟨List.nodup_nil, fun _ hx => absurd hx (List.not_mem_nil), fun _ hx => absurd hx (List.not_mem_nil), fun _ => Nat.zero_le _⟩
theorem chk_ok {c f : List UInt8} {t h b : Int} (e : F.chkS c f t h b = 0) : (0 ≤ t ∧ t ≤ 200000) ∧ 0 ≤ b ∧ b ≤ 3 := by
  unfold F.chkS at e
  split at e
  · split at e
    · rename_i h1
      unfold F.inb F.nob at h1
      simp only [Bool.and_eq_true, decide_eq_true_eq, Bool.not_eq_true', Bool.or_eq_false_iff, decide_eq_false_iff_not] at h1
      omega
    · cases e
  · cases e
theorem idx_split {l : List F.St} {c : List UInt8} (h : ¬ F.idx l c < 0) : (F.idx l c).toNat < l.length ∧ (F.gt l c).1 = c ∧ l = l.take (F.idx l c).toNat ++ F.gt l c :: l.drop ((F.idx l c).toNat + 1) ∧ F.gt l c ∈ l := by
  rcases idx_bd l c with ⟨h1, _⟩ | ⟨k, h1, h2, h3⟩
  · omega
  · have e : (F.idx l c).toNat = k := by omega
    have eg : F.gt l c = l.getD k F.st0 := by unfold F.gt; rw [if_pos (by omega), e]
    have eg2 : l.getD k F.st0 = l[k] := by rw [List.getD_eq_getElem?_getD, List.getElem?_eq_getElem h1]; rfl
    rw [e, eg]
    refine ⟨h1, h3, ?_, ?_⟩
    · rw [eg2, List.getElem_cons_drop, List.take_append_drop]
    · rw [eg2]
      exact List.getElem_mem h1
theorem set_split {l : List F.St} {k : Nat} (h : k < l.length) (y : F.St) : l.set k y = l.take k ++ y :: l.drop (k + 1) := List.set_eq_take_append_cons_drop.trans (if_pos h)
theorem cnt_app (a b : List F.St) (x : Int) : F.cnt (a ++ b) x = F.cnt a x + F.cnt b x := by simp [F.cnt]
theorem cnt_cons (y : F.St) (b : List F.St) (x : Int) : F.cnt (y :: b) x = (if y.2.2.2.2 = x then 1 else 0) + F.cnt b x := by
  unfold F.cnt F.inB
  rw [List.filter_cons]
  by_cases h : y.2.2.2.2 = x
  · simp [h]
    omega
  · simp [h]
theorem inv_put {l : List F.St} (i : F.Inv l) {c f : List UInt8} {t h b : Int} (e : F.putE l c f t h b = 0) : F.Inv (l ++ [(c, f, t, h, b)]) := by
  unfold F.putE at e
  by_cases c1 : F.chkS c f t h b = 0
  · rw [if_pos c1] at e
    by_cases c2 : 0 ≤ F.idx l c
    · rw [if_pos c2] at e; cases e
    · rw [if_neg c2] at e
      by_cases c3 : 16 ≤ (F.cnt l b : Int)
      · rw [if_pos c3] at e; cases e
      · obtain ⟨k1, k2⟩ := chk_ok c1
        have no : ∀ x ∈ l, x.1 ≠ c := by
          rcases idx_bd l c with ⟨_, h2⟩ | ⟨k, _, h2, _⟩
          · exact h2
          · omega
        refine ⟨?_, fun x hx => ?_, fun x hx => ?_, fun x => ?_⟩
        · unfold F.dst
          rw [List.map_append, List.nodup_append]
          refine ⟨i.d, by simp, fun a ha b hb => ?_⟩
          obtain ⟨x, hx, rfl⟩ := List.mem_map.1 ha
          simp only [List.map_cons, List.map_nil, List.mem_singleton] at hb
          subst hb
          exact no x hx
        · rcases List.mem_append.1 hx with hx | hx
          · exact i.t x hx
          · rw [List.mem_singleton.1 hx]; exact k1
        · rcases List.mem_append.1 hx with hx | hx
          · exact i.b x hx
          · rw [List.mem_singleton.1 hx]; exact k2
        · have hn := i.n x
          rw [cnt_app, cnt_cons]
          have e0 : F.cnt [] x = 0 := rfl
          simp only
          split
          · rename_i hb
            subst hb
            omega
          · omega
  · rw [if_neg c1] at e
    exact absurd e c1
/-- One strip for another of the same flight. -/
theorem inv_set {l : List F.St} (i : F.Inv l) {c : List UInt8} (h : ¬ F.idx l c < 0) {y : F.St} (hc : y.1 = c) (ht : 0 ≤ y.2.2.1 ∧ y.2.2.1 ≤ 200000) (hb : 0 ≤ y.2.2.2.2 ∧ y.2.2.2.2 ≤ 3) (hn : y.2.2.2.2 = (F.gt l c).2.2.2.2 ∨ F.cnt l y.2.2.2.2 < 16) : F.Inv (l.set (F.idx l c).toNat y) := by
  obtain ⟨h1, h2, h3, h4⟩ := idx_split h
  have mem : ∀ x ∈ l.set (F.idx l c).toNat y, x ∈ l ∨ x = y := fun x hx => List.mem_or_eq_of_mem_set hx
  refine ⟨?_, fun x hx => ?_, fun x hx => ?_, fun x => ?_⟩
  · have e : (l.set (F.idx l c).toNat y).map Prod.fst = l.map Prod.fst := by
      conv => rhs; rw [h3]
      rw [set_split h1]
      simp [hc, h2]
    unfold F.dst
    rw [e]
    exact i.d
  · rcases mem x hx with hx | rfl
    · exact i.t x hx
    · exact ht
  · rcases mem x hx with hx | rfl
    · exact i.b x hx
    · exact hb
  · have hl := i.n x
    have hy := i.n y.2.2.2.2
    rw [set_split h1, cnt_app, cnt_cons]
    have el : F.cnt l x = F.cnt (l.take (F.idx l c).toNat) x + ((if (F.gt l c).2.2.2.2 = x then 1 else 0) + F.cnt (l.drop ((F.idx l c).toNat + 1)) x) := by
      conv => lhs; rw [h3]
      rw [cnt_app, cnt_cons]
    by_cases q : y.2.2.2.2 = x
    · rw [if_pos q]
      rcases hn with hn | hn
      · rw [← hn, if_pos q] at el
        omega
      · rw [q] at hn
        have : (0 : Nat) ≤ (if (F.gt l c).2.2.2.2 = x then 1 else 0) := Nat.zero_le _
        omega
    · rw [if_neg q]
      have : (0 : Nat) ≤ (if (F.gt l c).2.2.2.2 = x then 1 else 0) := Nat.zero_le _
      omega
theorem inv_erase {l : List F.St} (i : F.Inv l) (k : Nat) : F.Inv (l.eraseIdx k) := by
  have s : (l.eraseIdx k).Sublist l := List.eraseIdx_sublist l k
  refine ⟨?_, fun x hx => i.t x (s.subset hx), fun x hx => i.b x (s.subset hx), fun x => Nat.le_trans ?_ (i.n x)⟩
  · exact i.d.sublist (s.map _)
  · exact (s.filter _).length_le
/-- The law's own way to move is the board's. -/
theorem mv_eq {l : List F.St} (i : F.Inv l) (c : List UInt8) (b : Int) : F.mvE l (F.idx l c) b (F.cnt l b) = F.movE l c b ∧ F.mvL l (F.idx l c) b (F.cnt l b) = F.movL l c b := by
  have e : F.mvE l (F.idx l c) b (F.cnt l b) = F.movE l c b := by
    unfold F.mvE F.movE
    cases h1 : F.nob b
    · have hb : 0 ≤ b ∧ b ≤ 3 := by
        unfold F.nob at h1
        simp only [Bool.or_eq_false_iff, decide_eq_false_iff_not] at h1
        omega
      have h2 : F.inb b 0 3 = true := by unfold F.inb; simp [hb]
      rw [h2, if_pos rfl, if_neg (show ¬ false = true by decide)]
      by_cases h3 : F.idx l c < 0
      · rw [if_pos h3, if_pos h3]
      · rw [if_neg h3, if_neg h3]
        obtain ⟨g1, g2, g3, g4⟩ := idx_split h3
        have hg := i.b _ g4
        have ek : F.kb l (F.idx l c) = F.gt5 l c := by
          unfold F.kb F.gt5 F.gt
          rw [if_pos (by omega)]
        have e5 : F.gt5 l c = (F.gt l c).2.2.2.2 := rfl
        rw [← e5] at hg
        have ew : F.wayO (10 * F.kb l (F.idx l c) + b) = F.prm (F.gt5 l c) b := by
          rw [ek]
          generalize F.gt5 l c = a at *
          obtain ⟨a1, a2⟩ := hg
          obtain ⟨b1, b2⟩ := hb
          have ha : a = 0 ∨ a = 1 ∨ a = 2 ∨ a = 3 := by omega
          have hb' : b = 0 ∨ b = 1 ∨ b = 2 ∨ b = 3 := by omega
          rcases ha with rfl | rfl | rfl | rfl <;> rcases hb' with rfl | rfl | rfl | rfl <;> decide
        rw [ew]
        have hn := i.n b
        cases F.prm (F.gt5 l c) b
        · rfl
        · rw [if_pos rfl, if_pos rfl]
          by_cases q : (F.cnt l b : Int) = 16
          · rw [if_pos q, if_pos (by omega)]
          · rw [if_neg q, if_neg (by omega)]
    · have h2 : F.inb b 0 3 = false := by
        unfold F.nob at h1
        unfold F.inb
        simp only [Bool.or_eq_true, decide_eq_true_eq] at h1
        simp only [Bool.and_eq_false_iff, decide_eq_false_iff_not]
        omega
      rw [h2, if_neg (by decide), if_pos rfl]
  refine ⟨e, ?_⟩
  unfold F.mvL F.movL
  rw [e]
  by_cases h : F.movE l c b = 0
  · rw [if_pos h, if_pos h]
    have h3 : ¬ F.idx l c < 0 := by
      intro q
      unfold F.movE at h
      cases hb : F.nob b
      · rw [hb, if_neg (by decide), if_pos q] at h; cases h
      · rw [hb, if_pos rfl] at h; cases h
    have eg : F.gt l c = l.getD (F.idx l c).toNat F.st0 := by unfold F.gt; rw [if_pos (by omega)]
    rw [eg]
  · rw [if_neg h, if_neg h]
theorem inv_mov {l : List F.St} (i : F.Inv l) {c : List UInt8} {b : Int} (e : F.movE l c b = 0) : F.Inv (F.movL l c b) := by
  unfold F.movL
  rw [if_pos e]
  unfold F.movE at e
  cases h1 : F.nob b
  · rw [h1, if_neg (by decide)] at e
    by_cases h2 : F.idx l c < 0
    · rw [if_pos h2] at e; cases e
    · rw [if_neg h2] at e
      obtain ⟨g1, g2, g3, g4⟩ := idx_split h2
      cases h3 : F.prm (F.gt5 l c) b
      · rw [h3, if_neg (by decide)] at e; cases e
      · rw [h3, if_pos rfl] at e
        by_cases h4 : 16 ≤ (F.cnt l b : Int)
        · rw [if_pos h4] at e; cases e
        · unfold F.nob at h1
          simp only [Bool.or_eq_false_iff, decide_eq_false_iff_not] at h1
          exact inv_set i h2 g2 (show 0 ≤ (F.gt l c).2.2.1 ∧ (F.gt l c).2.2.1 ≤ 200000 from i.t _ g4) (show 0 ≤ b ∧ b ≤ 3 by omega) (.inr (show F.cnt l b < 16 by omega))
  · rw [h1, if_pos rfl] at e
    cases e
theorem inv_chg {l : List F.St} (i : F.Inv l) {c f : List UInt8} {t h b : Int} (e : F.chgE l c f t h b = 0) : F.Inv (l.set (F.idx l c).toNat (F.stk c f t h b)) := by
  unfold F.chgE at e
  by_cases c1 : F.chkS c f t h b = 0
  · rw [if_pos c1] at e
    by_cases c2 : F.idx l c < 0
    · rw [if_pos c2] at e; cases e
    · rw [if_neg c2] at e
      by_cases c3 : F.gt5 l c = 3
      · rw [if_pos c3] at e; cases e
      · rw [if_neg c3] at e
        by_cases c4 : F.gt5 l c = b
        · obtain ⟨k1, k2⟩ := chk_ok c1
          exact inv_set i c2 rfl k1 k2 (.inl c4.symm)
        · rw [if_neg c4] at e; cases e
  · rw [if_neg c1] at e
    exact absurd e c1
end Go.Proofs.Ytkfkfihjdohjfaa
end
