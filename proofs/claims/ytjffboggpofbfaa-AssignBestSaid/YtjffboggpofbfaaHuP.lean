/- Plain law of the assignment of least cost: potentials, the tree of shortest ways, the way back. -/
import Derived.Test.YtjffboggpofbfaaRows
namespace Go.Proofs.Ytjffboggpofbfaa
namespace F
/-! finite sums over 1 .. n -/
def sumN (f : Nat → Int) : Nat → Int
  | 0 => 0
  | n + 1 => sumN f n + f (n + 1)
theorem sumN_congr {f g : Nat → Int} : ∀ n, (∀ k, 1 ≤ k → k ≤ n → f k = g k) → sumN f n = sumN g n
  | 0, _ => rfl
  | n + 1, h => by unfold sumN; rw [sumN_congr n (fun k h1 h2 => h k h1 (by omega)), h (n + 1) (by omega) (by omega)]
theorem sumN_le {f g : Nat → Int} : ∀ n, (∀ k, 1 ≤ k → k ≤ n → f k ≤ g k) → sumN f n ≤ sumN g n
  | 0, _ => Int.le_refl _
  | n + 1, h => by
    unfold sumN
    have a := sumN_le n (fun k h1 h2 => h k h1 (by omega))
    have b := h (n + 1) (by omega) (by omega)
    omega
theorem sumN_add (f g : Nat → Int) : ∀ n, sumN (fun k => f k + g k) n = sumN f n + sumN g n
  | 0 => rfl
  | n + 1 => by unfold sumN; rw [sumN_add f g n]; omega
theorem sumN_zero : ∀ n, sumN (fun _ => 0) n = 0
  | 0 => rfl
  | n + 1 => by unfold sumN; rw [sumN_zero n]; rfl
theorem sumN_swap (g : Nat → Nat → Int) (m : Nat) : ∀ n, sumN (fun x => sumN (fun k => g x k) m) n = sumN (fun k => sumN (fun x => g x k) n) m
  | 0 => by
    show (0 : Int) = sumN (fun _ => 0) m
    rw [sumN_zero]
  | n + 1 => by
    show sumN (fun x => sumN (fun k => g x k) m) n + sumN (fun k => g (n + 1) k) m = _
    rw [sumN_swap g m n, ← sumN_add]
    rfl
theorem sumN_none {f : Nat → Int} (n : Nat) (h : ∀ k, 1 ≤ k → k ≤ n → f k = 0) : sumN f n = 0 := by
  rw [sumN_congr n h, sumN_zero]
theorem sumN_single {f : Nat → Int} {a : Nat} : ∀ n, 1 ≤ a → a ≤ n → (∀ k, 1 ≤ k → k ≤ n → k ≠ a → f k = 0) → sumN f n = f a
  | 0, h1, h2, _ => by omega
  | n + 1, h1, h2, h => by
    unfold sumN
    by_cases e : a = n + 1
    · subst e
      rw [sumN_none n (fun k q1 q2 => h k q1 (by omega) (by omega))]
      omega
    · rw [sumN_single n h1 (by omega) (fun k q1 q2 q3 => h k q1 (by omega) q3), h (n + 1) (by omega) (by omega) (fun q => e q.symm)]
      omega
theorem sumN_mul (c : Int) (f : Nat → Int) : ∀ n, sumN (fun k => f k * c) n = sumN f n * c
  | 0 => by show (0 : Int) = 0 * c; rw [Int.zero_mul]
  | n + 1 => by unfold sumN; rw [sumN_mul c f n, Int.add_mul]
/-- A count of the places where an injective function takes a value. -/
theorem hit_le (s : Nat → Nat) (k : Nat) : ∀ n, (∀ x y, 1 ≤ x → x ≤ n → 1 ≤ y → y ≤ n → s x = s y → x = y) → 0 ≤ sumN (fun x => if s x = k then (1 : Int) else 0) n ∧ sumN (fun x => if s x = k then (1 : Int) else 0) n ≤ 1
  | n, h => by
    by_cases c : ∃ a, 1 ≤ a ∧ a ≤ n ∧ s a = k
    · obtain ⟨a, a1, a2, a3⟩ := c
      rw [sumN_single n a1 a2 (fun x x1 x2 x3 => if_neg fun e => x3 (h x a x1 x2 a1 a2 (by rw [e, a3]))), if_pos a3]
      omega
    · rw [sumN_none n (fun x x1 x2 => if_neg fun e => c ⟨x, x1, x2, e⟩)]
      omega
/-! the end of the method: potentials and a matching -/
/-- What holds of potentials u, v and the rows of the columns when t rows are matched. -/
structure Inv (n m : Nat) (C : Nat → Nat → Int) (t : Nat) (u v : Nat → Int) (row : Nat → Nat) : Prop where
  feas : ∀ x k, 1 ≤ x → x ≤ n → 1 ≤ k → k ≤ m → u x + v k ≤ C x k
  tight : ∀ k, 1 ≤ k → k ≤ m → row k ≠ 0 → u (row k) + v k = C (row k) k
  vneg : ∀ k, 1 ≤ k → k ≤ m → v k ≤ 0
  vz : ∀ k, 1 ≤ k → k ≤ m → row k = 0 → v k = 0
  rowb : ∀ k, 1 ≤ k → k ≤ m → row k ≤ t
  inj : ∀ k j, 1 ≤ k → k ≤ m → 1 ≤ j → j ≤ m → row k = row j → row k ≠ 0 → k = j
  sur : ∀ x, 1 ≤ x → x ≤ t → ∃ k, 1 ≤ k ∧ k ≤ m ∧ row k = x
/-- The matching's cost is the potentials' sum. -/
theorem inv_sum {n m : Nat} {C : Nat → Nat → Int} {u v : Nat → Int} {row : Nat → Nat} (I : Inv n m C n u v row) :
    sumN (fun k => if row k = 0 then 0 else C (row k) k) m = sumN u n + sumN v m := by
  have h1 : sumN (fun k => if row k = 0 then 0 else C (row k) k) m = sumN (fun k => (if row k = 0 then 0 else u (row k)) + v k) m := by
    refine sumN_congr m fun k k1 k2 => ?_
    by_cases e : row k = 0
    · rw [if_pos e, if_pos e, I.vz k k1 k2 e]
      rfl
    · rw [if_neg e, if_neg e, I.tight k k1 k2 e]
  have h2 : sumN (fun k => if row k = 0 then 0 else u (row k)) m = sumN u n := by
    have e1 : sumN (fun k => if row k = 0 then 0 else u (row k)) m = sumN (fun k => sumN (fun x => if row k = x then u x else 0) n) m := by
      refine sumN_congr m fun k k1 k2 => ?_
      by_cases e : row k = 0
      · rw [if_pos e, sumN_none n (fun x x1 x2 => if_neg (by omega))]
      · have hb := I.rowb k k1 k2
        rw [if_neg e, sumN_single n (a := row k) (by omega) hb (fun x x1 x2 x3 => if_neg (fun q => x3 q.symm)), if_pos rfl]
    rw [e1, sumN_swap (fun k x => if row k = x then u x else 0) n m]
    refine sumN_congr n fun x x1 x2 => ?_
    obtain ⟨k, k1, k2, k3⟩ := I.sur x x1 x2
    rw [sumN_single m k1 k2 (fun j j1 j2 j3 => if_neg (fun q => j3 (I.inj j k j1 j2 k1 k2 (by rw [q, k3]) (by omega)))), if_pos k3]
  rw [h1, sumN_add, h2]
/-- No assignment costs less. -/
theorem inv_least {n m : Nat} {C : Nat → Nat → Int} {u v : Nat → Int} {row : Nat → Nat} (I : Inv n m C n u v row) (s : Nat → Nat) (hs : ∀ x, 1 ≤ x → x ≤ n → 1 ≤ s x ∧ s x ≤ m) (hi : ∀ x y, 1 ≤ x → x ≤ n → 1 ≤ y → y ≤ n → s x = s y → x = y) :
    sumN (fun k => if row k = 0 then 0 else C (row k) k) m ≤ sumN (fun x => C x (s x)) n := by
  rw [inv_sum I]
  have h1 : sumN (fun x => u x + v (s x)) n ≤ sumN (fun x => C x (s x)) n := sumN_le n fun x x1 x2 => I.feas x (s x) x1 x2 (hs x x1 x2).1 (hs x x1 x2).2
  rw [sumN_add] at h1
  have h2 : sumN v m ≤ sumN (fun x => v (s x)) n := by
    have e1 : sumN (fun x => v (s x)) n = sumN (fun x => sumN (fun k => if s x = k then v k else 0) m) n := by
      refine sumN_congr n fun x x1 x2 => ?_
      rw [sumN_single m (hs x x1 x2).1 (hs x x1 x2).2 (fun k k1 k2 k3 => if_neg (fun q => k3 q.symm)), if_pos rfl]
    rw [e1, sumN_swap]
    refine sumN_le m fun k k1 k2 => ?_
    have e2 : sumN (fun x => if s x = k then v k else 0) n = sumN (fun x => if s x = k then (1 : Int) else 0) n * v k := by
      rw [← sumN_mul]
      refine sumN_congr n fun x _ _ => ?_
      by_cases q : s x = k
      · rw [if_pos q, if_pos q, Int.one_mul]
      · rw [if_neg q, if_neg q, Int.zero_mul]
    rw [e2]
    have hc := hit_le s k n hi
    have hv := I.vneg k k1 k2
    generalize sumN (fun x => if s x = k then (1 : Int) else 0) n = c at *
    have hc2 : c = 0 ∨ c = 1 := by omega
    rcases hc2 with e | e <;> rw [e] <;> omega
  omega
/-- The matching is an assignment. -/
theorem inv_some {n m : Nat} {C : Nat → Nat → Int} {u v : Nat → Int} {row : Nat → Nat} (I : Inv n m C n u v row) :
    ∃ s : Nat → Nat, (∀ x, 1 ≤ x → x ≤ n → 1 ≤ s x ∧ s x ≤ m) ∧ (∀ x y, 1 ≤ x → x ≤ n → 1 ≤ y → y ≤ n → s x = s y → x = y) ∧ sumN (fun k => if row k = 0 then 0 else C (row k) k) m = sumN (fun x => C x (s x)) n := by
  have hch : ∀ x, ∃ k, (1 ≤ x → x ≤ n → 1 ≤ k ∧ k ≤ m ∧ row k = x) := fun x => by
    by_cases h : 1 ≤ x ∧ x ≤ n
    · obtain ⟨k, k1, k2, k3⟩ := I.sur x h.1 h.2
      exact ⟨k, fun _ _ => ⟨k1, k2, k3⟩⟩
    · exact ⟨0, fun a b => absurd ⟨a, b⟩ h⟩
  let s : Nat → Nat := fun x => Classical.choose (hch x)
  have hs : ∀ x, 1 ≤ x → x ≤ n → 1 ≤ s x ∧ s x ≤ m ∧ row (s x) = x := fun x x1 x2 => Classical.choose_spec (hch x) x1 x2
  refine ⟨s, fun x x1 x2 => ⟨(hs x x1 x2).1, (hs x x1 x2).2.1⟩, fun x y x1 x2 y1 y2 e => ?_, ?_⟩
  · rw [← (hs x x1 x2).2.2, ← (hs y y1 y2).2.2, e]
  · have e1 : sumN (fun k => if row k = 0 then 0 else C (row k) k) m = sumN (fun k => sumN (fun x => if row k = x then C x k else 0) n) m := by
      refine sumN_congr m fun k k1 k2 => ?_
      by_cases e : row k = 0
      · rw [if_pos e, sumN_none n (fun x x1 x2 => if_neg (by omega))]
      · have hb := I.rowb k k1 k2
        rw [if_neg e, sumN_single n (a := row k) (by omega) hb (fun x x1 x2 x3 => if_neg (fun q => x3 q.symm)), if_pos rfl]
    rw [e1, sumN_swap (fun k x => if row k = x then C x k else 0) n m]
    refine sumN_congr n fun x x1 x2 => ?_
    obtain ⟨k1, k2, k3⟩ := hs x x1 x2
    rw [sumN_single m k1 k2 (fun j j1 j2 j3 => if_neg (fun q => j3 (I.inj j (s x) j1 j2 k1 k2 (by rw [q, k3]) (by omega)))), if_pos k3]
end F
namespace F
/-- A row more: the tree of the columns reached, a the column reached last. -/
structure Tree (n m : Nat) (C : Nat → Nat → Int) (B K : Int) (i : Nat) (u v : Nat → Int) (row way : Nat → Nat) (low : Nat → Int) (used : Nat → Bool) (a : Nat) (rk : Nat → Nat) (N : Nat) : Prop where
  feas : ∀ x k, 1 ≤ x → x ≤ n → 1 ≤ k → k ≤ m → u x + v k ≤ C x k
  tight : ∀ k, 1 ≤ k → k ≤ m → row k ≠ 0 → u (row k) + v k = C (row k) k
  vz : ∀ k, 1 ≤ k → k ≤ m → row k = 0 → v k = 0
  rowb : ∀ k, 1 ≤ k → k ≤ m → row k < i
  inj : ∀ k j, 1 ≤ k → k ≤ m → 1 ≤ j → j ≤ m → row k = row j → row k ≠ 0 → k = j
  sur : ∀ x, 1 ≤ x → x < i → ∃ k, 1 ≤ k ∧ k ≤ m ∧ row k = x
  hi : 1 ≤ i ∧ i ≤ n
  row0 : row 0 = i
  am : a ≤ m
  au : used a = false
  us : ∀ k, used k = true → k ≤ m ∧ row k ≠ 0
  z : used 0 = true ∨ a = 0
  wy : ∀ k, (used k = true ∨ k = a) → k ≠ 0 → used (way k) = true ∧ rk (way k) < rk k ∧ u (row (way k)) + v k = C (row (way k)) k
  rkN : ∀ k, (used k = true ∨ k = a) → rk k < N
  lo : ∀ k, 1 ≤ k → k ≤ m → used k = false → ∀ j, used j = true → low k ≤ C (row j) k - u (row j) - v k
  lw : ∀ k, 1 ≤ k → k ≤ m → used k = false → (low k = 1152921504606846976 ∧ ∀ j, used j = false) ∨ (used (way k) = true ∧ low k = C (row (way k)) k - u (row (way k)) - v k)
  ub : ∀ x, 0 ≤ u x ∧ u x ≤ K + u i
  vb : ∀ k, -(K + u i) ≤ v k ∧ v k ≤ 0
  lob : ∀ k, 0 ≤ low k ∧ low k ≤ 1152921504606846976
  uz : ∀ x, i < x → u x = 0
/-- A column without a row. -/
theorem free_col {n m : Nat} {i : Nat} {row : Nat → Nat} (hn : n ≤ m) (hi : 1 ≤ i ∧ i ≤ n) (hb : ∀ k, 1 ≤ k → k ≤ m → row k < i) (hj : ∀ k j, 1 ≤ k → k ≤ m → 1 ≤ j → j ≤ m → row k = row j → row k ≠ 0 → k = j) : ∃ k, 1 ≤ k ∧ k ≤ m ∧ row k = 0 := by
  by_cases h : ∃ k, 1 ≤ k ∧ k ≤ m ∧ row k = 0
  · exact h
  · exfalso
    have hne : ∀ k, 1 ≤ k → k ≤ m → row k ≠ 0 := fun k k1 k2 e => h ⟨k, k1, k2, e⟩
    have ones : ∀ N : Nat, sumN (fun _ => (1 : Int)) N = N := fun N => by
      induction N with
      | zero => rfl
      | succ N ih => unfold sumN; rw [ih]; omega
    have e1 : sumN (fun _ => (1 : Int)) m = sumN (fun k => sumN (fun x => if row k = x then (1 : Int) else 0) (i - 1)) m := by
      refine sumN_congr m fun k k1 k2 => ?_
      have a1 := hb k k1 k2
      have a2 := hne k k1 k2
      rw [sumN_single (i - 1) (a := row k) (by omega) (by omega) (fun x x1 x2 x3 => if_neg (fun q => x3 q.symm)), if_pos rfl]
    rw [sumN_swap (fun k x => if row k = x then (1 : Int) else 0) (i - 1) m] at e1
    have e2 : sumN (fun x => sumN (fun k => if row k = x then (1 : Int) else 0) m) (i - 1) ≤ sumN (fun _ => (1 : Int)) (i - 1) :=
      sumN_le _ fun x _ _ => (hit_le row x m (fun k j k1 k2 j1 j2 e => hj k j k1 k2 j1 j2 e (hne k k1 k2))).2
    rw [ones] at e1 e2
    omega
/-- One round: the column a taken in, the distances brought up to date, the next column. -/
theorem Tree.step {n m : Nat} {C : Nat → Nat → Int} {B K : Int} {i : Nat} {u v : Nat → Int} {row way : Nat → Nat} {low : Nat → Int} {used : Nat → Bool} {a : Nat} {rk : Nat → Nat} {N : Nat}
    (T : Tree n m C B K i u v row way low used a rk N) (hn : n ≤ m) (hB : 2 * B + K < 1152921504606846976) (hK : 0 ≤ K) (hC : ∀ x k, 1 ≤ x → x ≤ n → 1 ≤ k → k ≤ m → 0 ≤ C x k ∧ C x k ≤ B) (hra : row a ≠ 0)
    {used' : Nat → Bool} (hu' : ∀ k, used' k = true ↔ (used k = true ∨ k = a))
    {low' : Nat → Int} {way' : Nat → Nat} {delta : Int} {next : Nat}
    (hl1 : ∀ k, 1 ≤ k → k ≤ m → used' k = false → low' k = min (low k) (C (row a) k - u (row a) - v k))
    (hl2 : ∀ k, (used' k = true ∨ m < k ∨ k = 0) → low' k = low k ∧ way' k = way k)
    (hw1 : ∀ k, 1 ≤ k → k ≤ m → used' k = false → way' k = if C (row a) k - u (row a) - v k < low k then a else way k)
    (hd : (delta = 1152921504606846976 ∧ next = 0 ∧ ∀ k, 1 ≤ k → k ≤ m → used' k = false → 1152921504606846976 ≤ low' k) ∨ (1 ≤ next ∧ next ≤ m ∧ used' next = false ∧ delta = low' next ∧ ∀ k, 1 ≤ k → k ≤ m → used' k = false → delta ≤ low' k))
    {u' v' low2 : Nat → Int}
    (hu1 : ∀ k, used' k = true → u' (row k) = u (row k) + delta) (hu2 : ∀ x, (∀ k, used' k = true → row k ≠ x) → u' x = u x)
    (hv1 : ∀ k, v' k = if used' k = true then v k - delta else v k)
    (hl3 : ∀ k, k ≤ m → used' k = false → low2 k = low' k - delta) (hl4 : ∀ k, (m < k ∨ used' k = true) → low2 k = low' k) :
    0 ≤ delta ∧ next ≤ m ∧ next ≠ 0 ∧ used' next = false ∧ u i + delta ≤ B ∧
    Tree n m C B K i u' v' row way' low2 used' next (fun k => if k = next then N else rk k) (N + 1) := by
  have hrow : ∀ k, used' k = true → 1 ≤ row k ∧ row k ≤ n ∧ k ≤ m := fun k hk => by
    have hm : k ≤ m ∧ row k ≠ 0 := by
      rcases (hu' k).1 hk with h | h
      · exact T.us k h
      · rw [h]; exact ⟨T.am, hra⟩
    have hi := T.hi
    by_cases e : k = 0
    · rw [e, T.row0]; omega
    · have := T.rowb k (by omega) hm.1
      omega
  have u0 : used' 0 = true := (hu' 0).2 (by rcases T.z with h | h <;> simp [h])
  have hua : used' a = true := (hu' a).2 (.inr rfl)
  have nof : ∀ k, used' k = false → used k = false ∧ k ≠ a := fun k hk => by
    constructor
    · cases h : used k with
      | false => rfl
      | true => rw [(hu' k).2 (.inl h)] at hk; cases hk
    · intro h
      rw [(hu' k).2 (.inr h)] at hk
      cases hk
  have rinj : ∀ k j, used' k = true → used' j = true → row k = row j → k = j := fun k j hk hj e => by
    have a1 := hrow k hk
    have a2 := hrow j hj
    by_cases k0 : k = 0
    · by_cases j0 : j = 0
      · omega
      · have := T.rowb j (by omega) a2.2.2
        rw [k0, T.row0] at e
        omega
    · by_cases j0 : j = 0
      · have := T.rowb k (by omega) a1.2.2
        rw [j0, T.row0] at e
        omega
      · exact T.inj k j (by omega) a1.2.2 (by omega) a2.2.2 e (by omega)
  -- the new distances
  have lo' : ∀ k, 1 ≤ k → k ≤ m → used' k = false → ∀ j, used' j = true → low' k ≤ C (row j) k - u (row j) - v k := fun k k1 k2 hk j hj => by
    rw [hl1 k k1 k2 hk]
    rcases (hu' j).1 hj with h | h
    · have := T.lo k k1 k2 (nof k hk).1 j h
      omega
    · rw [h]; omega
  have lw' : ∀ k, 1 ≤ k → k ≤ m → used' k = false → used' (way' k) = true ∧ low' k = C (row (way' k)) k - u (row (way' k)) - v k ∨ (low' k = 1152921504606846976) := fun k k1 k2 hk => by
    rw [hl1 k k1 k2 hk, hw1 k k1 k2 hk]
    by_cases c : C (row a) k - u (row a) - v k < low k
    · rw [if_pos c]
      exact .inl ⟨hua, by omega⟩
    · rw [if_neg c]
      rcases T.lw k k1 k2 (nof k hk).1 with ⟨h1, _⟩ | ⟨h1, h2⟩
      · exact .inr (by omega)
      · exact .inl ⟨(hu' _).2 (.inl h1), by omega⟩
  have lo0 : ∀ k, 1 ≤ k → k ≤ m → used' k = false → 0 ≤ low' k := fun k k1 k2 hk => by
    rw [hl1 k k1 k2 hk]
    have a1 := (T.lob k).1
    have a2 := hrow a hua
    have a3 := T.feas (row a) k a2.1 a2.2.1 k1 k2
    omega
  obtain ⟨f, f1, f2, f3⟩ := free_col hn T.hi T.rowb T.inj
  have hff : used' f = false := by
    cases h : used' f with
    | false => rfl
    | true => have := (hrow f h).1; omega
  have lf := lo' f f1 f2 hff 0 u0
  have hvf := T.vz f f1 f2 f3
  have hCf := hC i f T.hi.1 T.hi.2 f1 f2
  have hui := (T.ub i).1
  rw [T.row0, hvf] at lf
  rcases hd with ⟨d1, _, d3⟩ | ⟨d1, d2, d3, d4, d5⟩
  · exfalso
    have := d3 f f1 f2 hff
    have hk0 := (T.vb 0)
    have hk1 := (T.ub i)
    omega
  have dpos : 0 ≤ delta := by rw [d4]; exact lo0 next d1 d2 d3
  have dB : u i + delta ≤ B := by have := d5 f f1 f2 hff; omega
  refine ⟨dpos, d2, by omega, d3, dB, ?_⟩
  have ui : u' i = u i + delta := by have := hu1 0 u0; rwa [T.row0] at this
  have ule : ∀ x, u' x = u x ∨ u' x = u x + delta := fun x => by
    by_cases h : ∃ k, used' k = true ∧ row k = x
    · obtain ⟨k, h1, h2⟩ := h
      right
      rw [← h2]
      exact hu1 k h1
    · exact .inl (hu2 x fun k hk e => h ⟨k, hk, e⟩)
  have hwn := lw' next d1 d2 d3
  have hwn : used' (way' next) = true ∧ low' next = C (row (way' next)) next - u (row (way' next)) - v next := by
    rcases hwn with h | h
    · exact h
    · have := d5 f f1 f2 hff
      omega
  have tight2 : ∀ k j, used' j = true → used' k = true → u (row j) + v k = C (row j) k → u' (row j) + v' k = C (row j) k := fun k j hj hk h => by
    rw [hu1 j hj, hv1 k, if_pos hk]
    omega
  refine ⟨fun x k x1 x2 k1 k2 => ?_, fun k k1 k2 hk => ?_, fun k k1 k2 hk => ?_, T.rowb, T.inj, T.sur, T.hi, T.row0, d2, d3, fun k hk => ⟨(hrow k hk).2.2, by have := (hrow k hk).1; omega⟩, .inl u0, fun k hk k0 => ?_, fun k hk => ?_, fun k k1 k2 hk j hj => ?_, fun k k1 k2 hk => ?_, fun x => ?_, fun k => ?_, fun k => ?_, fun x hx => ?_⟩
  · -- feas
    have hf := T.feas x k x1 x2 k1 k2
    rw [hv1 k]
    by_cases hk : used' k = true
    · rw [if_pos hk]
      rcases ule x with e | e <;> omega
    · rw [if_neg hk]
      have hk : used' k = false := by simpa using hk
      by_cases h : ∃ j, used' j = true ∧ row j = x
      · obtain ⟨j, h1, h2⟩ := h
        have := lo' k k1 k2 hk j h1
        have := d5 k k1 k2 hk
        rw [← h2, hu1 j h1]
        omega
      · rw [hu2 x fun j hj e => h ⟨j, hj, e⟩]
        exact hf
  · -- tight
    have ht := T.tight k k1 k2 hk
    by_cases hu : used' k = true
    · exact tight2 k k hu hu ht
    · rw [hv1 k, if_neg hu, hu2 (row k) fun j hj e => hu (by
        have jr := hrow j hj
        have ek : j = k := by
          by_cases j0 : j = 0
          · have := T.rowb k k1 k2
            rw [j0, T.row0] at e
            omega
          · exact T.inj j k (by omega) jr.2.2 k1 k2 e (by omega)
        rw [← ek]
        exact hj)]
      exact ht
  · -- vz
    rw [hv1 k, if_neg fun h => by have := (hrow k h).1; omega]
    exact T.vz k k1 k2 hk
  · -- wy
    by_cases e : k = next
    · subst e
      refine ⟨hwn.1, ?_, ?_⟩
      · have h1 : way' k ≠ k := fun e => by rw [e, d3] at hwn; cases hwn.1
        simp only [if_true, if_neg h1]
        exact T.rkN _ ((hu' _).1 hwn.1)
      · rw [hu1 _ hwn.1, hv1 k, if_neg (by rw [d3]; decide)]
        omega
    · have hk : used' k = true := by
        rcases hk with h | h
        · exact h
        · exact absurd h e
      obtain ⟨w1, w2, w3⟩ := T.wy k ((hu' k).1 hk) k0
      have ew : way' k = way k := (hl2 k (.inl hk)).2
      have hwu : used' (way k) = true := (hu' _).2 (.inl w1)
      rw [ew]
      refine ⟨hwu, ?_, tight2 k (way k) hwu hk w3⟩
      have h1 : way k ≠ next := fun e => by rw [e, d3] at hwu; cases hwu
      simp only [if_neg e, if_neg h1]
      exact w2
  · -- rkN
    by_cases e : k = next
    · simp only [if_pos e]
      omega
    · have hk : used' k = true := by
        rcases hk with h | h
        · exact h
        · exact absurd h e
      simp only [if_neg e]
      have := T.rkN k ((hu' k).1 hk)
      omega
  · -- lo
    have h1 := lo' k k1 k2 hk j hj
    rw [hl3 k k2 hk, hu1 j hj, hv1 k, if_neg (by rw [hk]; decide)]
    omega
  · -- lw
    right
    have h := lw' k k1 k2 hk
    rw [hl3 k k2 hk, hv1 k, if_neg (by rw [hk]; decide)]
    rcases h with ⟨h1, h2⟩ | h
    · refine ⟨h1, ?_⟩
      rw [hu1 _ h1, h2]
      omega
    · -- the distance cannot be without a way: a has just been taken in
      exfalso
      have h1 := lo' k k1 k2 hk a hua
      have ar := hrow a hua
      have h2 := hC (row a) k ar.1 ar.2.1 k1 k2
      have h3 := (T.ub (row a)).1
      have h4 := (T.vb k).1
      omega
  · have h := T.ub x
    have h0 := T.ub i
    rw [ui]
    rcases ule x with e | e <;> rw [e] <;> omega
  · have h := T.vb k
    rw [hv1 k, ui]
    split <;> omega
  · -- lob
    have hb := T.lob k
    by_cases hk : used' k = true
    · rw [hl4 k (.inr hk), (hl2 k (.inl hk)).1]
      exact hb
    · have hk : used' k = false := by simpa using hk
      by_cases hm : m < k
      · rw [hl4 k (.inl hm), (hl2 k (.inr (.inl hm))).1]
        exact hb
      · have k0 : k ≠ 0 := fun e => by rw [e, u0] at hk; cases hk
        have h5 := d5 k (by omega) (by omega) hk
        have h6 := hl1 k (by omega) (by omega) hk
        rw [hl3 k (by omega) hk]
        omega
  · rw [hu2 x fun k hk e => by
      have hr := hrow k hk
      by_cases k0 : k = 0
      · rw [k0, T.row0] at e
        omega
      · have := T.rowb k (by omega) hr.2.2
        omega]
    exact T.uz x hx
/-- The way back: a's column is to be given its row; the rest is right. -/
structure Aug (n m : Nat) (C : Nat → Nat → Int) (i : Nat) (u v : Nat → Int) (row : Nat → Nat) (used : Nat → Bool) (rk : Nat → Nat) (r : Nat → Nat) (a : Nat) : Prop where
  am : a ≤ m
  old : ∀ k, used k = true → rk k < rk a → r k = row k
  tight : ∀ k, 1 ≤ k → k ≤ m → k ≠ a → r k ≠ 0 → u (r k) + v k = C (r k) k
  vz : ∀ k, 1 ≤ k → k ≤ m → k ≠ a → r k = 0 → v k = 0
  rb : ∀ k, k ≤ m → k ≠ a → r k ≤ i
  inj : ∀ k j, k ≤ m → j ≤ m → k ≠ a → j ≠ a → r k = r j → r k ≠ 0 → k = j
  sur : ∀ x, 1 ≤ x → x ≤ i → ∃ k, k ≤ m ∧ k ≠ a ∧ r k = x
theorem Tree.aug {n m : Nat} {C : Nat → Nat → Int} {B K : Int} {i : Nat} {u v : Nat → Int} {row way : Nat → Nat} {low : Nat → Int} {used : Nat → Bool} {a : Nat} {rk : Nat → Nat} {N : Nat}
    (T : Tree n m C B K i u v row way low used a rk N) (hra : row a = 0) : Aug n m C i u v row used rk row a := by
  have hi := T.hi
  have ha0 : a ≠ 0 := fun e => by rw [e, T.row0] at hra; omega
  refine ⟨T.am, fun k _ _ => rfl, fun k k1 k2 _ => T.tight k k1 k2, fun k k1 k2 _ => T.vz k k1 k2, fun k k2 ka => ?_, fun k j k2 j2 ka ja e h => ?_, fun x x1 x2 => ?_⟩
  · by_cases k0 : k = 0
    · rw [k0, T.row0]; omega
    · have := T.rowb k (by omega) k2
      omega
  · by_cases k0 : k = 0
    · by_cases j0 : j = 0
      · omega
      · have := T.rowb j (by omega) j2
        rw [k0, T.row0] at e
        omega
    · by_cases j0 : j = 0
      · have := T.rowb k (by omega) k2
        rw [j0, T.row0] at e
        omega
      · exact T.inj k j (by omega) k2 (by omega) j2 e h
  · by_cases e : x = i
    · exact ⟨0, by omega, fun q => ha0 q.symm, by rw [T.row0, e]⟩
    · obtain ⟨k, k1, k2, k3⟩ := T.sur x x1 (by omega)
      exact ⟨k, k2, fun q => by rw [q, hra] at k3; omega, k3⟩
theorem Aug.step {n m : Nat} {C : Nat → Nat → Int} {B K : Int} {i : Nat} {u v : Nat → Int} {row way : Nat → Nat} {low : Nat → Int} {used : Nat → Bool} {a0 : Nat} {rk : Nat → Nat} {N : Nat} {r : Nat → Nat} {a : Nat}
    (T : Tree n m C B K i u v row way low used a0 rk N) (A : Aug n m C i u v row used rk r a) (ha : used a = true ∨ a = a0) (h0 : a ≠ 0) {r' : Nat → Nat} (hr1 : r' a = r (way a)) (hr2 : ∀ k, k ≠ a → r' k = r k) :
    used (way a) = true ∧ way a ≤ m ∧ rk (way a) < rk a ∧ r (way a) ≠ 0 ∧ Aug n m C i u v row used rk r' (way a) := by
  obtain ⟨w1, w2, w3⟩ := T.wy a ha h0
  have eb := A.old (way a) w1 w2
  have hb := T.us (way a) w1
  have hne : way a ≠ a := fun e => by rw [e] at w2; omega
  have hbr : r (way a) ≠ 0 := by rw [eb]; exact hb.2
  refine ⟨w1, hb.1, w2, hbr, hb.1, fun k k1 k2 => ?_, fun k k1 k2 kb hk => ?_, fun k k1 k2 kb hk => ?_, fun k k2 kb => ?_, fun k j k2 j2 kb jb e h => ?_, fun x x1 x2 => ?_⟩
  · rw [hr2 k fun e => by rw [e] at k2; omega]
    exact A.old k k1 (by omega)
  · by_cases e : k = a
    · subst e
      rw [hr1, eb]
      exact w3
    · rw [hr2 k e] at hk ⊢
      exact A.tight k k1 k2 e hk
  · by_cases e : k = a
    · subst e
      rw [hr1] at hk
      exact absurd hk hbr
    · rw [hr2 k e] at hk
      exact A.vz k k1 k2 e hk
  · by_cases e : k = a
    · subst e
      rw [hr1]
      exact A.rb _ hb.1 hne
    · rw [hr2 k e]
      exact A.rb k k2 e
  · by_cases ek : k = a
    · by_cases ej : j = a
      · rw [ek, ej]
      · rw [ek, hr1, hr2 j ej] at e
        have := A.inj (way a) j hb.1 j2 hne ej e hbr
        exact absurd this.symm jb
    · by_cases ej : j = a
      · rw [ej, hr1, hr2 k ek] at e
        have := A.inj k (way a) k2 hb.1 ek hne e (by rw [e]; exact hbr)
        exact absurd this kb
      · rw [hr2 k ek, hr2 j ej] at e
        rw [hr2 k ek] at h
        exact A.inj k j k2 j2 ek ej e h
  · obtain ⟨k, k1, k2, k3⟩ := A.sur x x1 x2
    by_cases e : k = way a
    · exact ⟨a, A.am, fun q => hne q.symm, by rw [hr1, ← e, k3]⟩
    · exact ⟨k, k1, e, by rw [hr2 k k2, k3]⟩
/-- What holds when t rows are matched, bounds with it. -/
structure Outer (n m : Nat) (C : Nat → Nat → Int) (B : Int) (t : Nat) (u v : Nat → Int) (row : Nat → Nat) : Prop where
  inv : Inv n m C t u v row
  ub : ∀ x, 0 ≤ u x ∧ u x ≤ t * B
  vb : ∀ k, -(t * B) ≤ v k ∧ v k ≤ 0
  uz : ∀ x, t < x → u x = 0
theorem Aug.fin {n m : Nat} {C : Nat → Nat → Int} {B : Int} {t : Nat} {u v : Nat → Int} {row way : Nat → Nat} {low : Nat → Int} {used : Nat → Bool} {a0 : Nat} {rk : Nat → Nat} {N : Nat} {r : Nat → Nat}
    (T : Tree n m C B (t * B) (t + 1) u v row way low used a0 rk N) (hn : n ≤ m) (hC : ∀ x k, 1 ≤ x → x ≤ n → 1 ≤ k → k ≤ m → 0 ≤ C x k ∧ C x k ≤ B) (A : Aug n m C (t + 1) u v row used rk r 0) : Outer n m C B (t + 1) u v r := by
  obtain ⟨f, f1, f2, f3⟩ := free_col hn T.hi T.rowb T.inj
  have h1 := T.feas (t + 1) f T.hi.1 T.hi.2 f1 f2
  have h2 := T.vz f f1 f2 f3
  have h3 := hC (t + 1) f T.hi.1 T.hi.2 f1 f2
  have e : ((t + 1 : Nat) : Int) * B = t * B + B := by rw [Int.natCast_succ, Int.add_mul, Int.one_mul]
  refine ⟨⟨T.feas, fun k k1 k2 => A.tight k k1 k2 (by omega), fun k _ _ => (T.vb k).2, fun k k1 k2 => A.vz k k1 k2 (by omega), fun k k1 k2 => A.rb k k2 (by omega), fun k j k1 k2 j1 j2 e h => A.inj k j k2 j2 (by omega) (by omega) e h, fun x x1 x2 => ?_⟩, fun x => ?_, fun k => ?_, fun x hx => T.uz x hx⟩
  · obtain ⟨k, k1, k2, k3⟩ := A.sur x x1 x2
    exact ⟨k, by omega, k1, k3⟩
  · have := T.ub x
    rw [e]
    omega
  · have := T.vb k
    rw [e]
    omega
/-- A row's phase begins. -/
theorem Outer.tree {n m : Nat} {C : Nat → Nat → Int} {B : Int} {t : Nat} {u v : Nat → Int} {row : Nat → Nat} (O : Outer n m C B t u v row) (ht : t < n) {row' way : Nat → Nat} {low : Nat → Int} {used : Nat → Bool} (hr0 : row' 0 = t + 1) (hr : ∀ k, k ≠ 0 → row' k = row k) (hl : ∀ k, k ≤ m → low k = 1152921504606846976) (hlb : ∀ k, 0 ≤ low k ∧ low k ≤ 1152921504606846976) (hus : ∀ k, used k = false) :
    Tree n m C B (t * B) (t + 1) u v row' way low used 0 (fun _ => 0) 1 := by
  have hu0 := O.uz (t + 1) (by omega)
  refine ⟨O.inv.feas, fun k k1 k2 hk => ?_, fun k k1 k2 hk => ?_, fun k k1 k2 => ?_, fun k j k1 k2 j1 j2 e h => ?_, fun x x1 x2 => ?_, by omega, hr0, by omega, hus 0, fun k hk => ?_, .inr rfl, fun k hk k0 => ?_, fun k _ => by omega, fun k _ _ _ j hj => ?_, fun k _ hk _ => .inl ⟨hl k hk, hus⟩, fun x => ?_, fun k => ?_, hlb, fun x hx => O.uz x (by omega)⟩
  · rw [hr k (by omega)] at hk ⊢
    exact O.inv.tight k k1 k2 hk
  · rw [hr k (by omega)] at hk
    exact O.inv.vz k k1 k2 hk
  · rw [hr k (by omega)]
    have := O.inv.rowb k k1 k2
    omega
  · rw [hr k (by omega), hr j (by omega)] at e
    rw [hr k (by omega)] at h
    exact O.inv.inj k j k1 k2 j1 j2 e h
  · obtain ⟨k, k1, k2, k3⟩ := O.inv.sur x x1 (by omega)
    exact ⟨k, k1, k2, by rw [hr k (by omega)]; exact k3⟩
  · rw [hus] at hk; cases hk
  · rcases hk with h | h
    · rw [hus] at h; cases h
    · exact absurd h k0
  · rw [hus] at hj; cases hj
  · have := O.ub x
    rw [hu0]
    omega
  · have := O.vb k
    rw [hu0]
    omega
theorem Outer.start {n m : Nat} {C : Nat → Nat → Int} {B : Int} (hC : ∀ x k, 1 ≤ x → x ≤ n → 1 ≤ k → k ≤ m → 0 ≤ C x k ∧ C x k ≤ B) {u v : Nat → Int} {row : Nat → Nat} (hu : ∀ x, u x = 0) (hv : ∀ x, v x = 0) (hr : ∀ x, row x = 0) : Outer n m C B 0 u v row := by
  refine ⟨⟨fun x k x1 x2 k1 k2 => ?_, fun k _ _ h => absurd (hr k) h, fun k _ _ => by rw [hv]; omega, fun k _ _ _ => hv k, fun k _ _ => by rw [hr]; omega, fun k j _ _ _ _ _ h => absurd (hr k) h, fun x x1 x2 => by omega⟩, fun x => ?_, fun k => ?_, fun x _ => hu x⟩
  · have := hC x k x1 x2 k1 k2
    rw [hu, hv]
    omega
  · rw [hu]; simp
  · rw [hv]; simp
end F
end Go.Proofs.Ytjffboggpofbfaa
