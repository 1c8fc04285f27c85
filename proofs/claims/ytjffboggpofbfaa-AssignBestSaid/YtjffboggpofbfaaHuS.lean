/- Plain law of the assignment: the method's loops on lists. -/
import Derived.Test.YtjffboggpofbfaaHuR
namespace Go.Proofs.Ytjffboggpofbfaa
namespace F
def gN (l : List Int) (k : Nat) : Nat := (l.getD k 0).toNat
def gI (l : List Int) (k : Nat) : Int := l.getD k 0
def gB (l : List Bool) (k : Nat) : Bool := l.getD k false
def BB : Int := 36028797018963968
theorem gI_set (l : List Int) (i : Nat) (a : Int) (k : Nat) (h : i < l.length) : gI (l.set i a) k = if k = i then a else gI l k := by
  unfold gI
  rw [List.getD_eq_getElem?_getD, List.getD_eq_getElem?_getD, List.getElem?_set]
  by_cases e : i = k
  · subst e
    simp [h]
  · rw [if_neg e, if_neg fun q => e q.symm]
theorem gN_set (l : List Int) (i : Nat) (a : Int) (k : Nat) (h : i < l.length) : gN (l.set i a) k = if k = i then a.toNat else gN l k := by
  show (gI (l.set i a) k).toNat = _
  rw [gI_set l i a k h]
  split <;> rfl
theorem gB_set (l : List Bool) (i : Nat) (a : Bool) (k : Nat) (h : i < l.length) : gB (l.set i a) k = if k = i then a else gB l k := by
  unfold gB
  rw [List.getD_eq_getElem?_getD, List.getD_eq_getElem?_getD, List.getElem?_set]
  by_cases e : i = k
  · subst e
    simp [h]
  · rw [if_neg e, if_neg fun q => e q.symm]
theorem gB_len {l : List Bool} {k : Nat} (h : gB l k = true) : k < l.length := by
  refine Nat.lt_of_not_le fun c => ?_
  unfold gB at h
  rw [List.getD_eq_getElem?_getD, List.getElem?_eq_none c] at h
  cases h
/-- Columns not yet reached. -/
def free : List Bool → Nat
  | [] => 0
  | b :: t => (if b = true then 0 else 1) + free t
theorem free_set : ∀ (l : List Bool) (a : Nat), a < l.length → gB l a = false → free (l.set a true) + 1 = free l
  | [], a, h, _ => by cases h
  | b :: t, 0, _, h => by
    have hb : b = false := h
    subst hb
    show (if true = true then 0 else 1) + free t + 1 = (if false = true then 0 else 1) + free t
    simp
    omega
  | b :: t, a + 1, h, hb => by
    have := free_set t a (by simpa using h) hb
    show (if b = true then 0 else 1) + free (t.set a true) + 1 = (if b = true then 0 else 1) + free t
    omega
/-- The tree of columns, in the program's rows. -/
structure TreeL (n m : Nat) (C : Nat → Nat → Int) (t : Nat) (u v row way low : List Int) (used : List Bool) (a : Nat) (rk : Nat → Nat) (N : Nat) : Prop where
  T : Tree n m C BB (t * BB) (t + 1) (gI u) (gI v) (gN row) (gN way) (gI low) (gB used) a rk N
  lu : u.length = n + 1
  lv : v.length = m + 1
  lr : row.length = m + 1
  lw : way.length = m + 1
  ll : low.length = m + 1
  ls : used.length = m + 1
  rp : ∀ k, 0 ≤ gI row k
  wp : ∀ k, 0 ≤ gI way k
/-- One scan of the columns, k not yet looked at. -/
structure Sc (m : Nat) (c : Nat → Int) (used : List Bool) (a : Nat) (low way : List Int) (k : Nat) (low1 way1 : List Int) (delta : Int) (next : Nat) : Prop where
  ll : low1.length = m + 1
  lw : way1.length = m + 1
  don : ∀ j, 1 ≤ j → j < k → gB used j = false → gI low1 j = min (gI low j) (c j) ∧ gI way1 j = if c j < gI low j then (a : Int) else gI way j
  rest : ∀ j, (k ≤ j ∨ gB used j = true ∨ j = 0) → gI low1 j = gI low j ∧ gI way1 j = gI way j
  dl : (delta = 1152921504606846976 ∧ next = 0 ∧ ∀ j, 1 ≤ j → j < k → gB used j = false → 1152921504606846976 ≤ gI low1 j) ∨ (1 ≤ next ∧ next < k ∧ gB used next = false ∧ delta = gI low1 next ∧ ∀ j, 1 ≤ j → j < k → gB used j = false → delta ≤ gI low1 j)
theorem Sc.start {m : Nat} {c : Nat → Int} {used : List Bool} {a : Nat} {low way : List Int} (h1 : low.length = m + 1) (h2 : way.length = m + 1) : Sc m c used a low way 1 low way 1152921504606846976 0 :=
  ⟨h1, h2, fun j j1 j2 => by omega, fun _ _ => ⟨rfl, rfl⟩, .inl ⟨rfl, rfl, fun j j1 j2 => by omega⟩⟩
theorem Sc.skip {m : Nat} {c : Nat → Int} {used : List Bool} {a : Nat} {low way : List Int} {k : Nat} {low1 way1 : List Int} {delta : Int} {next : Nat} (S : Sc m c used a low way k low1 way1 delta next) (hk : gB used k = true) : Sc m c used a low way (k + 1) low1 way1 delta next := by
  have ne : ∀ j, gB used j = false → j ≠ k := fun j hj e => by rw [e, hk] at hj; cases hj
  refine ⟨S.ll, S.lw, fun j j1 j2 hj => S.don j j1 (by have := ne j hj; omega) hj, fun j hj => S.rest j (hj.imp_left fun h => by omega), ?_⟩
  rcases S.dl with ⟨d1, d2, d3⟩ | ⟨d1, d2, d3, d4, d5⟩
  · exact .inl ⟨d1, d2, fun j j1 j2 hj => d3 j j1 (by have := ne j hj; omega) hj⟩
  · exact .inr ⟨d1, by omega, d3, d4, fun j j1 j2 hj => d5 j j1 (by have := ne j hj; omega) hj⟩
theorem Sc.put {m : Nat} {c : Nat → Int} {used : List Bool} {a : Nat} {low way : List Int} {k : Nat} {low1 way1 : List Int} {delta : Int} {next : Nat} (S : Sc m c used a low way k low1 way1 delta next) (hk : gB used k = false) (k1 : 1 ≤ k) (k2 : k ≤ m) {low2 way2 : List Int}
    (hl : (c k < gI low1 k ∧ low2 = low1.set k (c k) ∧ way2 = way1.set k (a : Int)) ∨ (¬ c k < gI low1 k ∧ low2 = low1 ∧ way2 = way1)) :
    (gI low2 k < delta → Sc m c used a low way (k + 1) low2 way2 (gI low2 k) k) ∧ (¬ gI low2 k < delta → Sc m c used a low way (k + 1) low2 way2 delta next) := by
  have r := S.rest k (.inl (Nat.le_refl _))
  have hL : low2.length = m + 1 ∧ way2.length = m + 1 := by
    rcases hl with ⟨_, h2, h3⟩ | ⟨_, h2, h3⟩ <;> rw [h2, h3]
    · rw [List.length_set, List.length_set]; exact ⟨S.ll, S.lw⟩
    · exact ⟨S.ll, S.lw⟩
  have hne : ∀ j, j ≠ k → gI low2 j = gI low1 j ∧ gI way2 j = gI way1 j := fun j hj => by
    rcases hl with ⟨_, h2, h3⟩ | ⟨_, h2, h3⟩ <;> rw [h2, h3]
    · rw [gI_set _ _ _ _ (by rw [S.ll]; omega), gI_set _ _ _ _ (by rw [S.lw]; omega), if_neg hj, if_neg hj]; exact ⟨rfl, rfl⟩
    · exact ⟨rfl, rfl⟩
  have hat : gI low2 k = min (gI low k) (c k) ∧ gI way2 k = if c k < gI low k then (a : Int) else gI way k := by
    rcases hl with ⟨h1, h2, h3⟩ | ⟨h1, h2, h3⟩ <;> rw [h2, h3]
    · rw [gI_set _ _ _ _ (by rw [S.ll]; omega), gI_set _ _ _ _ (by rw [S.lw]; omega), if_pos rfl, if_pos rfl, if_pos (by rw [← r.1]; exact h1)]
      rw [r.1] at h1
      exact ⟨by omega, rfl⟩
    · rw [r.1] at h1
      rw [r.1, r.2, if_neg h1]
      exact ⟨by omega, rfl⟩
  have hdon : ∀ j, 1 ≤ j → j < k + 1 → gB used j = false → gI low2 j = min (gI low j) (c j) ∧ gI way2 j = if c j < gI low j then (a : Int) else gI way j := fun j j1 j2 hj => by
    by_cases e : j = k
    · subst e; exact hat
    · rw [(hne j e).1, (hne j e).2]
      exact S.don j j1 (by omega) hj
  have hrest : ∀ j, (k + 1 ≤ j ∨ gB used j = true ∨ j = 0) → gI low2 j = gI low j ∧ gI way2 j = gI way j := fun j hj => by
    have e : j ≠ k := fun e => by
      rcases hj with h | h | h
      · omega
      · rw [e, hk] at h; cases h
      · omega
    rw [(hne j e).1, (hne j e).2]
    exact S.rest j (hj.imp_left fun h => by omega)
  have lt : ∀ j, 1 ≤ j → j < k + 1 → j = k ∨ (j ≠ k ∧ j < k) := fun j _ _ => by omega
  refine ⟨fun h => ⟨hL.1, hL.2, hdon, hrest, .inr ⟨k1, by omega, hk, rfl, fun j j1 j2 hj => ?_⟩⟩, fun h => ⟨hL.1, hL.2, hdon, hrest, ?_⟩⟩
  · rcases lt j j1 j2 with e | ⟨e, e2⟩
    · rw [e]; omega
    · rw [(hne j e).1]
      rcases S.dl with ⟨d1, d2, d3⟩ | ⟨d1, d2, d3, d4, d5⟩
      · have := d3 j j1 e2 hj; omega
      · have := d5 j j1 e2 hj; omega
  · rcases S.dl with ⟨d1, d2, d3⟩ | ⟨d1, d2, d3, d4, d5⟩
    · refine .inl ⟨d1, d2, fun j j1 j2 hj => ?_⟩
      rcases lt j j1 j2 with e | ⟨e, e2⟩
      · rw [e]; omega
      · rw [(hne j e).1]; exact d3 j j1 e2 hj
    · refine .inr ⟨d1, by omega, d3, by rw [(hne next (by omega)).1]; exact d4, fun j j1 j2 hj => ?_⟩
      rcases lt j j1 j2 with e | ⟨e, e2⟩
      · rw [e]; omega
      · rw [(hne j e).1]; exact d5 j j1 e2 hj
/-- The potentials brought up to date, k not yet looked at. -/
structure Up (used : List Bool) (row u v low : List Int) (delta : Int) (k : Nat) (u1 v1 low1 : List Int) : Prop where
  lu : u1.length = u.length
  lv : v1.length = v.length
  ll : low1.length = low.length
  hu1 : ∀ j, j < k → gB used j = true → gI u1 (gN row j) = gI u (gN row j) + delta
  hu2 : ∀ x, (∀ j, j < k → gB used j = true → gN row j ≠ x) → gI u1 x = gI u x
  hv : ∀ j, gI v1 j = if j < k ∧ gB used j = true then gI v j - delta else gI v j
  hl : ∀ j, gI low1 j = if j < k ∧ gB used j = false then gI low j - delta else gI low j
theorem Up.start (used : List Bool) (row u v low : List Int) (delta : Int) : Up used row u v low delta 0 u v low :=
  ⟨rfl, rfl, rfl, fun j h => by omega, fun _ _ => rfl, fun j => by rw [if_neg (by omega)], fun j => by rw [if_neg (by omega)]⟩
theorem Up.yes {used : List Bool} {row u v low : List Int} {delta : Int} {k : Nat} {u1 v1 low1 : List Int} (U : Up used row u v low delta k u1 v1 low1) (hk : gB used k = true) (hinj : ∀ j, j < k → gB used j = true → gN row j ≠ gN row k) (h1 : gN row k < u.length) (h2 : k < v.length) :
    gI u1 (gN row k) = gI u (gN row k) ∧ gI v1 k = gI v k ∧ Up used row u v low delta (k + 1) (u1.set (gN row k) (gI u1 (gN row k) + delta)) (v1.set k (gI v1 k - delta)) low1 := by
  have e1 : gI u1 (gN row k) = gI u (gN row k) := U.hu2 _ hinj
  have e2 : gI v1 k = gI v k := by rw [U.hv k, if_neg (by omega)]
  refine ⟨e1, e2, by rw [List.length_set]; exact U.lu, by rw [List.length_set]; exact U.lv, U.ll, fun j j1 hj => ?_, fun x hx => ?_, fun j => ?_, fun j => ?_⟩
  · rw [gI_set _ _ _ _ (by rw [U.lu]; exact h1)]
    by_cases e : j = k
    · subst e
      rw [if_pos rfl, e1]
    · rw [if_neg (hinj j (by omega) hj)]
      exact U.hu1 j (by omega) hj
  · rw [gI_set _ _ _ _ (by rw [U.lu]; exact h1), if_neg fun e => hx k (by omega) hk e.symm]
    exact U.hu2 x fun j hj hu => hx j (by omega) hu
  · rw [gI_set _ _ _ _ (by rw [U.lv]; exact h2)]
    by_cases e : j = k
    · subst e
      rw [if_pos rfl, if_pos ⟨by omega, hk⟩, e2]
    · rw [if_neg e, U.hv j]
      by_cases c : j < k ∧ gB used j = true
      · rw [if_pos c, if_pos ⟨by omega, c.2⟩]
      · rw [if_neg c, if_neg fun q => c ⟨by omega, q.2⟩]
  · rw [U.hl j]
    by_cases c : j < k ∧ gB used j = false
    · rw [if_pos c, if_pos ⟨by omega, c.2⟩]
    · rw [if_neg c, if_neg fun q => by
        by_cases e : j = k
        · rw [e, hk] at q; cases q.2
        · exact c ⟨by omega, q.2⟩]
theorem Up.no {used : List Bool} {row u v low : List Int} {delta : Int} {k : Nat} {u1 v1 low1 : List Int} (U : Up used row u v low delta k u1 v1 low1) (hk : gB used k = false) (h2 : k < low.length) :
    gI low1 k = gI low k ∧ Up used row u v low delta (k + 1) u1 v1 (low1.set k (gI low1 k - delta)) := by
  have e2 : gI low1 k = gI low k := by rw [U.hl k, if_neg (by omega)]
  have ne : ∀ j, gB used j = true → j ≠ k := fun j hj e => by rw [e, hk] at hj; cases hj
  refine ⟨e2, U.lu, U.lv, by rw [List.length_set]; exact U.ll, fun j j1 hj => U.hu1 j (by have := ne j hj; omega) hj, fun x hx => U.hu2 x fun j hj hu => hx j (by omega) hu, fun j => ?_, fun j => ?_⟩
  · rw [U.hv j]
    by_cases c : j < k ∧ gB used j = true
    · rw [if_pos c, if_pos ⟨by omega, c.2⟩]
    · rw [if_neg c, if_neg fun q => c ⟨by have := ne j q.2; omega, q.2⟩]
  · rw [gI_set _ _ _ _ (by rw [U.ll]; exact h2)]
    by_cases e : j = k
    · subst e
      rw [if_pos rfl, if_pos ⟨by omega, hk⟩, e2]
    · rw [if_neg e, U.hl j]
      by_cases c : j < k ∧ gB used j = false
      · rw [if_pos c, if_pos ⟨by omega, c.2⟩]
      · rw [if_neg c, if_neg fun q => c ⟨by omega, q.2⟩]
/-- What the bounds of the tree are. -/
theorem TreeL.bd {n m : Nat} {C : Nat → Nat → Int} {t : Nat} {u v row way low : List Int} {used : List Bool} {a : Nat} {rk : Nat → Nat} {N : Nat} (S : TreeL n m C t u v row way low used a rk N) (hn : n ≤ m) (hn5 : n ≤ 5)
    (hC : ∀ x k, 1 ≤ x → x ≤ n → 1 ≤ k → k ≤ m → 0 ≤ C x k ∧ C x k ≤ BB) : t < n ∧ (t : Int) * BB ≤ 144115188075855872 ∧ 0 ≤ (t : Int) * BB ∧ (∀ x, 0 ≤ gI u x ∧ gI u x ≤ 180143985094819840) ∧ (∀ k, -180143985094819840 ≤ gI v k ∧ gI v k ≤ 0) ∧ (∀ k, 0 ≤ gI low k ∧ gI low k ≤ 1152921504606846976) := by
  have hi := S.T.hi
  obtain ⟨f, f1, f2, f3⟩ := free_col hn S.T.hi S.T.rowb S.T.inj
  have h1 := S.T.feas (t + 1) f hi.1 hi.2 f1 f2
  have h2 := S.T.vz f f1 f2 f3
  have h3 := hC (t + 1) f hi.1 hi.2 f1 f2
  have hB : BB = 36028797018963968 := rfl
  have ht : (t : Int) * BB ≤ 4 * BB := Int.mul_le_mul_of_nonneg_right (by omega) (by rw [hB]; omega)
  have ht0 : 0 ≤ (t : Int) * BB := Int.mul_nonneg (by omega) (by rw [hB]; omega)
  rw [hB] at ht ht0 h3
  refine ⟨by omega, by rw [hB]; omega, by rw [hB]; omega, fun x => ?_, fun k => ?_, S.T.lob⟩
  · have := S.T.ub x
    rw [hB] at this
    omega
  · have := S.T.vb k
    rw [hB] at this
    omega
/-- One round of the method, on lists. -/
theorem TreeL.step {n m : Nat} {C : Nat → Nat → Int} {t : Nat} {u v row way low : List Int} {used : List Bool} {a : Nat} {rk : Nat → Nat} {N : Nat} (S : TreeL n m C t u v row way low used a rk N) (hn : n ≤ m) (hn5 : n ≤ 5)
    (hC : ∀ x k, 1 ≤ x → x ≤ n → 1 ≤ k → k ≤ m → 0 ≤ C x k ∧ C x k ≤ BB) (hra : gN row a ≠ 0) {low1 way1 : List Int} {delta : Int} {next : Nat}
    (hS : Sc m (fun k => C (gN row a) k - gI u (gN row a) - gI v k) (used.set a true) a low way (m + 1) low1 way1 delta next) {u1 v1 low2 : List Int} (hU : Up (used.set a true) row u v low1 delta (m + 1) u1 v1 low2) :
    next ≤ m ∧ ∃ rk' N', TreeL n m C t u1 v1 row way1 low2 (used.set a true) next rk' N' := by
  have hb := S.bd hn hn5 hC
  have ha := S.T.am
  have hu' : ∀ k, gB (used.set a true) k = true ↔ (gB used k = true ∨ k = a) := fun k => by
    rw [gB_set _ _ _ _ (by rw [S.ls]; omega)]
    by_cases e : k = a
    · simp [e]
    · simp [e]
  have used_le : ∀ k, gB (used.set a true) k = true → k < m + 1 := fun k hk => by
    have := gB_len hk
    rw [List.length_set, S.ls] at this
    exact this
  have key := S.T.step hn (by unfold BB; have := hb.2.1; unfold BB at this; omega) hb.2.2.1 hC hra hu' (low' := gI low1) (way' := gN way1) (delta := delta) (next := next)
    (fun k k1 k2 hk => (hS.don k k1 (by omega) hk).1)
    (fun k hk => by
      have := hS.rest k (by rcases hk with h | h | h; exact .inr (.inl h); exact .inl (by omega); exact .inr (.inr h))
      exact ⟨this.1, by show (gI way1 k).toNat = (gI way k).toNat; rw [this.2]⟩)
    (fun k k1 k2 hk => by
      have := (hS.don k k1 (by omega) hk).2
      show (gI way1 k).toNat = if _ then a else (gI way k).toNat
      rw [this]
      split <;> simp)
    (by
      rcases hS.dl with ⟨d1, d2, d3⟩ | ⟨d1, d2, d3, d4, d5⟩
      · exact .inl ⟨d1, d2, fun k k1 k2 => d3 k k1 (by omega)⟩
      · exact .inr ⟨d1, by omega, d3, d4, fun k k1 k2 => d5 k k1 (by omega)⟩)
    (u' := gI u1) (v' := gI v1) (low2 := gI low2)
    (fun k hk => hU.hu1 k (used_le k hk) hk) (fun x hx => hU.hu2 x fun j _ hj => hx j hj)
    (fun k => by
      rw [hU.hv k]
      by_cases c : gB (used.set a true) k = true
      · rw [if_pos ⟨used_le k c, c⟩, if_pos c]
      · rw [if_neg fun q => c q.2, if_neg c])
    (fun k k1 hk => by rw [hU.hl k, if_pos ⟨by omega, hk⟩])
    (fun k hk => by rw [hU.hl k, if_neg fun q => by rcases hk with h | h; omega; rw [h] at q; cases q.2])
  obtain ⟨_, g2, _, _, _, g6⟩ := key
  refine ⟨g2, _, _, g6, by rw [hU.lu, S.lu], by rw [hU.lv, S.lv], S.lr, hS.lw, by rw [hU.ll, hS.ll], by rw [List.length_set, S.ls], S.rp, fun k => ?_⟩
  by_cases hk : 1 ≤ k ∧ k < m + 1 ∧ gB (used.set a true) k = false
  · rw [(hS.don k hk.1 hk.2.1 hk.2.2).2]
    split
    · omega
    · exact S.wp k
  · rw [(hS.rest k (by
      by_cases h1 : m + 1 ≤ k
      · exact .inl h1
      · by_cases h2 : k = 0
        · exact .inr (.inr h2)
        · refine .inr (.inl ?_)
          cases h3 : gB (used.set a true) k with
          | true => rfl
          | false => exact absurd ⟨by omega, by omega, h3⟩ hk)).2]
    exact S.wp k
/-- Rows of the columns reached differ. -/
theorem TreeL.rinj {n m : Nat} {C : Nat → Nat → Int} {t : Nat} {u v row way low : List Int} {used : List Bool} {a : Nat} {rk : Nat → Nat} {N : Nat} (S : TreeL n m C t u v row way low used a rk N) (hra : gN row a ≠ 0) :
    (∀ k, gB (used.set a true) k = true → k ≤ m ∧ 1 ≤ gN row k ∧ gN row k ≤ n) ∧ ∀ k j, gB (used.set a true) k = true → gB (used.set a true) j = true → gN row j = gN row k → j = k := by
  have ha := S.T.am
  have hi := S.T.hi
  have h1 : ∀ k, gB (used.set a true) k = true → k ≤ m ∧ gN row k ≠ 0 := fun k hk => by
    rw [gB_set _ _ _ _ (by rw [S.ls]; omega)] at hk
    by_cases e : k = a
    · rw [e]; exact ⟨ha, hra⟩
    · rw [if_neg e] at hk
      exact S.T.us k hk
  have h2 : ∀ k, gB (used.set a true) k = true → k ≤ m ∧ 1 ≤ gN row k ∧ gN row k ≤ n := fun k hk => by
    have a1 := h1 k hk
    by_cases e : k = 0
    · have := S.T.row0
      rw [e]
      rw [e] at a1
      omega
    · have := S.T.rowb k (by omega) a1.1
      omega
  refine ⟨h2, fun k j hk hj e => ?_⟩
  have a1 := h1 k hk
  have a2 := h1 j hj
  by_cases k0 : k = 0
  · by_cases j0 : j = 0
    · omega
    · have := S.T.rowb j (by omega) a2.1
      rw [k0, S.T.row0] at e
      omega
  · by_cases j0 : j = 0
    · have := S.T.rowb k (by omega) a1.1
      rw [j0, S.T.row0] at e
      omega
    · exact S.T.inj j k (by omega) a2.1 (by omega) a1.1 e (by omega)
/-- What holds at the head of the rows' loop. -/
structure OutL (n m : Nat) (C : Nat → Nat → Int) (t : Nat) (u v row way : List Int) : Prop where
  O : Outer n m C BB t (gI u) (gI v) (gN row)
  lu : u.length = n + 1
  lv : v.length = m + 1
  lr : row.length = m + 1
  lw : way.length = m + 1
  rp : ∀ k, 0 ≤ gI row k
  wp : ∀ k, 0 ≤ gI way k
theorem gI_rep (n : Nat) (a : Int) (k : Nat) : gI (List.replicate n a) k = if k < n then a else 0 := by
  unfold gI
  rw [List.getD_eq_getElem?_getD, List.getElem?_replicate]
  split <;> rfl
theorem OutL.start {n m : Nat} {C : Nat → Nat → Int} (hC : ∀ x k, 1 ≤ x → x ≤ n → 1 ≤ k → k ≤ m → 0 ≤ C x k ∧ C x k ≤ BB) : OutL n m C 0 (List.replicate (n + 1) 0) (List.replicate (m + 1) 0) (List.replicate (m + 1) 0) (List.replicate (m + 1) 0) := by
  have z : ∀ N k, gI (List.replicate N 0) k = 0 := fun N k => by rw [gI_rep]; split <;> rfl
  exact ⟨Outer.start hC (fun x => z _ x) (fun x => z _ x) (fun x => by show (gI _ x).toNat = 0; rw [z]; rfl), by simp, by simp, by simp, by simp, fun k => by rw [z]; omega, fun k => by rw [z]; omega⟩
theorem OutL.tree {n m : Nat} {C : Nat → Nat → Int} {t : Nat} {u v row way : List Int} (O : OutL n m C t u v row way) (ht : t < n) {low : List Int} (hl : low = List.replicate (m + 1) 1152921504606846976) :
    ∃ rk N, TreeL n m C t u v (row.set 0 ((t + 1 : Nat) : Int)) way low (List.replicate (m + 1) false) 0 rk N := by
  subst hl
  have h0 : 0 < row.length := by rw [O.lr]; omega
  refine ⟨_, _, O.O.tree ht (by rw [gN_set _ _ _ _ h0, if_pos rfl]; simp) (fun k hk => by rw [gN_set _ _ _ _ h0, if_neg hk]) (fun k hk => by rw [gI_rep, if_pos (by omega)]) (fun k => by rw [gI_rep]; split <;> omega) (fun k => by
      cases h : gB (List.replicate (m + 1) false) k with
      | false => rfl
      | true =>
        exfalso
        have hk := gB_len h
        unfold gB at h
        rw [List.getD_eq_getElem?_getD, List.getElem?_replicate, if_pos (by simpa using hk)] at h
        cases h), O.lu, O.lv, by rw [List.length_set, O.lr], O.lw, by simp, by simp, fun k => ?_, O.wp⟩
  rw [gI_set _ _ _ _ h0]
  split
  · omega
  · exact O.rp k
/-- The way back, on lists. -/
structure AugL (n m : Nat) (C : Nat → Nat → Int) (t : Nat) (u v row way low : List Int) (used : List Bool) (a0 : Nat) (rk : Nat → Nat) (N : Nat) (r : List Int) (a : Nat) : Prop where
  S : TreeL n m C t u v row way low used a0 rk N
  A : Aug n m C (t + 1) (gI u) (gI v) (gN row) (gB used) rk (gN r) a
  lr : r.length = m + 1
  rp : ∀ k, 0 ≤ gI r k
  ha : gB used a = true ∨ a = a0
theorem TreeL.aug {n m : Nat} {C : Nat → Nat → Int} {t : Nat} {u v row way low : List Int} {used : List Bool} {a : Nat} {rk : Nat → Nat} {N : Nat} (S : TreeL n m C t u v row way low used a rk N) (hra : gN row a = 0) : AugL n m C t u v row way low used a rk N row a :=
  ⟨S, S.T.aug hra, S.lr, S.rp, .inr rfl⟩
theorem AugL.step {n m : Nat} {C : Nat → Nat → Int} {t : Nat} {u v row way low : List Int} {used : List Bool} {a0 : Nat} {rk : Nat → Nat} {N : Nat} {r : List Int} {a : Nat} (A : AugL n m C t u v row way low used a0 rk N r a) (h0 : a ≠ 0) :
    a ≤ m ∧ gN way a ≤ m ∧ rk (gN way a) < rk a ∧ AugL n m C t u v row way low used a0 rk N (r.set a (gI r (gN way a))) (gN way a) := by
  have ha := A.A.am
  have hl : a < r.length := by rw [A.lr]; omega
  obtain ⟨g1, g2, g3, _, g5⟩ := A.A.step A.S.T A.ha h0 (r' := gN (r.set a (gI r (gN way a)))) (by rw [gN_set _ _ _ _ hl, if_pos rfl]; rfl) (fun k hk => by rw [gN_set _ _ _ _ hl, if_neg hk])
  refine ⟨ha, g2, g3, A.S, g5, by rw [List.length_set]; exact A.lr, fun k => ?_, .inl g1⟩
  rw [gI_set _ _ _ _ hl]
  split
  · exact A.rp _
  · exact A.rp k
theorem AugL.fin {n m : Nat} {C : Nat → Nat → Int} {t : Nat} {u v row way low : List Int} {used : List Bool} {a0 : Nat} {rk : Nat → Nat} {N : Nat} {r : List Int} (A : AugL n m C t u v row way low used a0 rk N r 0) (hn : n ≤ m) (hC : ∀ x k, 1 ≤ x → x ≤ n → 1 ≤ k → k ≤ m → 0 ≤ C x k ∧ C x k ≤ BB) :
    OutL n m C (t + 1) u v r way :=
  ⟨A.A.fin A.S.T hn hC, A.S.lu, A.S.lv, A.lr, A.S.lw, A.rp, A.S.wp⟩
end F
end Go.Proofs.Ytjffboggpofbfaa
