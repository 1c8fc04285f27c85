/- Parts of the proof, one behind the other: PairP, RunP. -/
import Derived.Test.YtiolfkmkbccndaaGreatDoorBd26
import Derived.Test.YtiolfkmkbccndaaGreatDoorXr
section
/- Plain law: a primary with its standby; what was acknowledged stays. -/
namespace Go.Proofs.YtiolfkmkbccndaaGreatDoor
namespace F
abbrev Txt := List UInt8
abbrev Msg := Int × Int × Bool × List UInt8
def m0 : Msg := (0, 0, false, [])
/-- The entries of the primary and of the standby, the messages in transit, the term, what is acknowledged in it, and at all. -/
structure PS where
  P : List Txt
  S : List Txt
  W : List Msg
  t : Int
  d : Int
  a : Int
def ps0 : PS := ⟨[], [], [], 1, 0, 0⟩
def submE (s : PS) (x : Txt) : Int := if 120 < x.length then 2 else if s.P.length = 64 ∨ s.W.length = 64 then 9 else 0
def subm (s : PS) (x : Txt) : PS := if submE s x = 0 then { s with P := s.P ++ [x], W := s.W ++ [(s.t, (s.P.length : Int) + 1, false, x)] } else s
/-- The messages for the entries from number n on. -/
def resL (s : PS) : Nat → Nat → List Msg
  | 0, _ => []
  | k + 1, n => (s.t, (n : Int), false, s.P.getD (n - 1) []) :: resL s k (n + 1)
def resA (s : PS) : List Msg := resL s (s.P.length - s.d.toNat) (s.d.toNat + 1)
def resd (s : PS) : PS := if 64 < s.W.length + (resA s).length then s else { s with W := s.W ++ resA s }
def tkE (s : PS) (k : Int) : Int := if k < 0 ∨ (s.W.length : Int) ≤ k then 8 else 0
def drp (s : PS) (k : Int) : PS := if tkE s k = 0 then { s with W := s.W.eraseIdx k.toNat } else s
def dlvM (s : PS) (m : Msg) : PS :=
  if m.1 < s.t then s
  else if m.2.2.1 = true then { s with d := max s.d m.2.1, a := max s.a (max s.d m.2.1) }
  else if m.2.1 = (s.S.length : Int) + 1 then { s with S := s.S ++ [m.2.2.2], W := s.W ++ [(s.t, (s.S.length : Int) + 1, true, [])] }
  else { s with W := s.W ++ [(s.t, (s.S.length : Int), true, [])] }
def dlv (s : PS) (k : Int) : PS := if tkE s k = 0 then dlvM (drp s k) (s.W.getD k.toNat m0) else s
def tkoE (s : PS) : Int := if (s.S.length : Int) < s.a then 21 else 0
def tko (s : PS) : PS := if (s.S.length : Int) < s.a then s else { s with P := s.S, S := [], t := s.t + 1, d := 0 }
/-- What a message says in its own term. -/
def okM (s : PS) (m : Msg) : Prop := m.1 ≤ s.t ∧ (m.1 = s.t → if m.2.2.1 = true then 0 ≤ m.2.1 ∧ m.2.1 ≤ s.S.length else 1 ≤ m.2.1 ∧ m.2.1 ≤ s.P.length ∧ m.2.2.2 = s.P.getD (m.2.1.toNat - 1) [])
structure Inv (G : Txt → Prop) (s : PS) : Prop where
  pre : s.S = s.P.take s.S.length
  sp : s.S.length ≤ s.P.length
  d0 : 0 ≤ s.d
  d1 : s.d ≤ s.S.length
  a0 : 0 ≤ s.a
  a1 : s.a ≤ s.P.length
  pl : s.P.length ≤ 64
  wl : s.W.length ≤ 64
  msgs : ∀ m ∈ s.W, okM s m
  good : ∀ x ∈ s.P, G x
/-- What was acknowledged stays. -/
def Ext (s s' : PS) : Prop := s'.P.take s.a.toNat = s.P.take s.a.toNat ∧ s.a ≤ s'.a
theorem Ext.refl (s : PS) : Ext s s := ⟨rfl, Int.le_refl _⟩
variable {G : Txt → Prop}
theorem inv0 : Inv G ps0 := ⟨rfl, Nat.le_refl _, Int.le_refl _, Int.le_refl _, Int.le_refl _, Int.le_refl _, by decide, by decide, (fun m hm => by cases hm), fun x hx => by cases hx⟩
theorem okM_grow {s s' : PS} {m : Msg} (ht : s'.t = s.t) (hS : s.S.length ≤ s'.S.length) (hP : ∃ x, s'.P = s.P ++ x) (h : okM s m) : okM s' m := by
  obtain ⟨h1, h2⟩ := h
  obtain ⟨x, hx⟩ := hP
  refine ⟨by rw [ht]; exact h1, fun e => ?_⟩
  have h3 := h2 (by rw [← ht]; exact e)
  by_cases c : m.2.2.1 = true
  · rw [if_pos c] at h3 ⊢
    omega
  · rw [if_neg c] at h3 ⊢
    obtain ⟨q1, q2, q3⟩ := h3
    refine ⟨q1, by rw [hx, List.length_append]; omega, ?_⟩
    rw [q3, hx, List.getD_eq_getElem?_getD, List.getD_eq_getElem?_getD, List.getElem?_append_left (by omega)]
theorem subm_inv {s : PS} (h : Inv G s) {x : Txt} (hx : G x) : Inv G (subm s x) ∧ Ext s (subm s x) := by
  unfold subm
  by_cases c : submE s x = 0
  · rw [if_pos c]
    have c2 : s.P.length ≠ 64 ∧ s.W.length ≠ 64 := by
      unfold submE at c
      split at c
      · cases c
      · split at c
        · cases c
        · rename_i q; exact ⟨fun e => q (.inl e), fun e => q (.inr e)⟩
    have hP : ∃ y, s.P ++ [x] = s.P ++ y := ⟨_, rfl⟩
    have hpl := h.pl
    have hwl := h.wl
    have hsp := h.sp
    have ha0 := h.a0
    have ha1 := h.a1
    refine ⟨⟨?_, ?_, h.d0, h.d1, h.a0, ?_, ?_, ?_, fun m hm => ?_, fun y hy => ?_⟩, ?_, Int.le_refl _⟩
    · show s.S = (s.P ++ [x]).take s.S.length
      rw [List.take_append_of_le_length h.sp]
      exact h.pre
    · show s.S.length ≤ (s.P ++ [x]).length
      rw [List.length_append]; omega
    · show s.a ≤ ((s.P ++ [x]).length : Nat)
      rw [List.length_append, List.length_singleton]; omega
    · show (s.P ++ [x]).length ≤ 64
      rw [List.length_append, List.length_singleton]; omega
    · show (s.W ++ [_]).length ≤ 64
      rw [List.length_append, List.length_singleton]; omega
    · rcases List.mem_append.1 hm with hm | hm
      · exact okM_grow (s := s) (s' := { s with P := s.P ++ [x], W := s.W ++ [(s.t, (s.P.length : Int) + 1, false, x)] }) rfl (Nat.le_refl _) hP (h.msgs m hm)
      · rw [List.mem_singleton.1 hm]
        refine ⟨Int.le_refl _, fun _ => ?_⟩
        rw [if_neg (by simp)]
        refine ⟨by show (1 : Int) ≤ (s.P.length : Int) + 1; omega, by show (s.P.length : Int) + 1 ≤ ((s.P ++ [x]).length : Nat); rw [List.length_append, List.length_singleton]; omega, ?_⟩
        show x = (s.P ++ [x]).getD (((s.P.length : Int) + 1).toNat - 1) []
        rw [show ((s.P.length : Int) + 1).toNat - 1 = s.P.length by omega, List.getD_eq_getElem?_getD, List.getElem?_append_right (Nat.le_refl _)]
        simp
    · rcases List.mem_append.1 hy with hy | hy
      · exact h.good y hy
      · rw [List.mem_singleton.1 hy]; exact hx
    · exact List.take_append_of_le_length (by omega)
  · rw [if_neg c]
    exact ⟨h, .refl _⟩
theorem resL_ok {s : PS} : ∀ (k n : Nat), 1 ≤ n → n + k ≤ s.P.length + 1 → ∀ m ∈ resL s k n, m.1 = s.t ∧ m.2.2.1 = false ∧ 1 ≤ m.2.1 ∧ m.2.1 ≤ s.P.length ∧ m.2.2.2 = s.P.getD (m.2.1.toNat - 1) []
  | 0, _, _, _, m, hm => by cases hm
  | k + 1, n, h1, h2, m, hm => by
    rcases List.mem_cons.1 hm with hm | hm
    · rw [hm]
      refine ⟨rfl, rfl, by show (1 : Int) ≤ (n : Int); omega, by show (n : Int) ≤ _; omega, ?_⟩
      show s.P.getD (n - 1) [] = s.P.getD ((n : Int).toNat - 1) []
      rw [Int.toNat_natCast]
    · exact resL_ok k (n + 1) (by omega) (by omega) m hm
theorem resL_len (s : PS) : ∀ k n, (resL s k n).length = k
  | 0, _ => rfl
  | k + 1, n => by rw [resL, List.length_cons, resL_len s k]
theorem resd_inv {s : PS} (h : Inv G s) : Inv G (resd s) ∧ Ext s (resd s) := by
  unfold resd
  by_cases c : 64 < s.W.length + (resA s).length
  · rw [if_pos c]
    exact ⟨h, .refl _⟩
  · rw [if_neg c]
    have hd0 := h.d0
    have hd1 := h.d1
    have hsp := h.sp
    refine ⟨⟨h.pre, h.sp, h.d0, h.d1, h.a0, h.a1, h.pl, by show (s.W ++ resA s).length ≤ 64; rw [List.length_append]; omega, fun m hm => ?_, h.good⟩, rfl, Int.le_refl _⟩
    rcases List.mem_append.1 hm with hm | hm
    · exact h.msgs m hm
    · obtain ⟨q1, q2, q3⟩ := resL_ok _ _ (by omega) (by omega) m hm
      refine ⟨by rw [q1]; exact Int.le_refl _, fun _ => ?_⟩
      rw [if_neg (by rw [q2]; decide)]
      exact q3
theorem drp_inv {s : PS} (h : Inv G s) (k : Int) : Inv G (drp s k) ∧ Ext s (drp s k) := by
  unfold drp
  by_cases c : tkE s k = 0
  · rw [if_pos c]
    refine ⟨⟨h.pre, h.sp, h.d0, h.d1, h.a0, h.a1, h.pl, Nat.le_trans (List.length_eraseIdx_le ..) h.wl, fun m hm => ?_, h.good⟩, rfl, Int.le_refl _⟩
    exact h.msgs m (List.mem_of_mem_eraseIdx hm)
  · rw [if_neg c]
    exact ⟨h, .refl _⟩
theorem tke_ok {s : PS} {k : Int} (h : tkE s k = 0) : 0 ≤ k ∧ k < s.W.length := by
  unfold tkE at h
  split at h
  · cases h
  · omega
theorem dlv_inv {s : PS} (h : Inv G s) (k : Int) : Inv G (dlv s k) ∧ Ext s (dlv s k) := by
  unfold dlv
  by_cases c : tkE s k = 0
  · rw [if_pos c]
    obtain ⟨k0, k1⟩ := tke_ok c
    obtain ⟨h', -⟩ := drp_inv h k
    have hm : s.W.getD k.toNat m0 ∈ s.W := by
      rw [List.getD_eq_getElem?_getD, List.getElem?_eq_getElem (by omega)]
      exact List.getElem_mem _
    obtain ⟨m1, m2⟩ := h.msgs _ hm
    have hwl : (drp s k).W.length + 1 ≤ 64 := by
      have := h.wl
      unfold drp
      rw [if_pos c]
      show (s.W.eraseIdx k.toNat).length + 1 ≤ 64
      rw [List.length_eraseIdx, if_pos (by omega)]
      omega
    have e1 : (drp s k).P = s.P := by unfold drp; rw [if_pos c]
    have e2 : (drp s k).S = s.S := by unfold drp; rw [if_pos c]
    have e3 : (drp s k).t = s.t := by unfold drp; rw [if_pos c]
    have e4 : (drp s k).a = s.a := by unfold drp; rw [if_pos c]
    rw [← e3, ← e1, ← e2] at m2
    rw [← e3] at m1
    have key : Inv G (dlvM (drp s k) (s.W.getD k.toNat m0)) ∧ Ext (drp s k) (dlvM (drp s k) (s.W.getD k.toNat m0)) := by
      generalize s.W.getD k.toNat m0 = m at *
      generalize drp s k = r at *
      clear e1 e2 e3 e4 hm c k0 k1 h
      unfold dlvM
      by_cases c1 : m.1 < r.t
      · rw [if_pos c1]; exact ⟨h', .refl _⟩
      rw [if_neg c1]
      have m3 := m2 (by omega)
      by_cases c2 : m.2.2.1 = true
      · rw [if_pos c2] at m3 ⊢
        have hd0 := h'.d0
        have hd1 := h'.d1
        have ha0 := h'.a0
        have ha1 := h'.a1
        have hsp := h'.sp
        refine ⟨⟨h'.pre, h'.sp, ?_, ?_, ?_, ?_, h'.pl, h'.wl, h'.msgs, h'.good⟩, rfl, ?_⟩
        · show 0 ≤ max r.d m.2.1; omega
        · show max r.d m.2.1 ≤ (r.S.length : Int); omega
        · show 0 ≤ max r.a (max r.d m.2.1); omega
        · show max r.a (max r.d m.2.1) ≤ (r.P.length : Int); omega
        · show r.a ≤ max r.a (max r.d m.2.1); omega
      · rw [if_neg c2] at m3 ⊢
        obtain ⟨q1, q2, q3⟩ := m3
        have hsp := h'.sp
        have hpl := h'.pl
        have hd1 := h'.d1
        by_cases c3 : m.2.1 = (r.S.length : Int) + 1
        · rw [if_pos c3]
          have hlt : r.S.length < r.P.length := by omega
          have et : m.2.2.2 = r.P.getD r.S.length [] := by rw [q3, c3, show ((r.S.length : Int) + 1).toNat - 1 = r.S.length by omega]
          refine ⟨⟨?_, ?_, h'.d0, ?_, h'.a0, h'.a1, h'.pl, ?_, fun x hx => ?_, h'.good⟩, rfl, Int.le_refl _⟩
          · show r.S ++ [m.2.2.2] = r.P.take (r.S ++ [m.2.2.2]).length
            rw [List.length_append, List.length_singleton, List.take_add_one, ← h'.pre, et, List.getD_eq_getElem?_getD, List.getElem?_eq_getElem hlt]
            rfl
          · show (r.S ++ [m.2.2.2]).length ≤ r.P.length
            rw [List.length_append, List.length_singleton]; omega
          · show r.d ≤ ((r.S ++ [m.2.2.2]).length : Nat)
            rw [List.length_append, List.length_singleton]; omega
          · show (r.W ++ [_]).length ≤ 64
            rw [List.length_append, List.length_singleton]; omega
          · rcases List.mem_append.1 hx with hx | hx
            · exact okM_grow (s := r) (s' := { r with S := r.S ++ [m.2.2.2], W := r.W ++ [(r.t, (r.S.length : Int) + 1, true, [])] }) rfl (by show _ ≤ (r.S ++ [m.2.2.2]).length; rw [List.length_append]; omega) ⟨[], by show r.P = r.P ++ []; simp⟩ (h'.msgs x hx)
            · rw [List.mem_singleton.1 hx]
              refine ⟨Int.le_refl _, fun _ => ?_⟩
              rw [if_pos (by rfl)]
              refine ⟨by show 0 ≤ (r.S.length : Int) + 1; omega, by show (r.S.length : Int) + 1 ≤ ((r.S ++ [m.2.2.2]).length : Nat); rw [List.length_append, List.length_singleton]; omega⟩
        · rw [if_neg c3]
          refine ⟨⟨h'.pre, h'.sp, h'.d0, h'.d1, h'.a0, h'.a1, h'.pl, ?_, fun x hx => ?_, h'.good⟩, rfl, Int.le_refl _⟩
          · show (r.W ++ [_]).length ≤ 64
            rw [List.length_append, List.length_singleton]; omega
          · rcases List.mem_append.1 hx with hx | hx
            · exact h'.msgs x hx
            · rw [List.mem_singleton.1 hx]
              refine ⟨Int.le_refl _, fun _ => ?_⟩
              rw [if_pos (by rfl)]
              exact ⟨by show 0 ≤ (r.S.length : Int); omega, Int.le_refl _⟩
    obtain ⟨g1, g2, g3⟩ := key
    rw [e1, e4] at g2
    rw [e4] at g3
    exact ⟨g1, g2, g3⟩
  · rw [if_neg c]
    exact ⟨h, .refl _⟩
theorem tko_inv {s : PS} (h : Inv G s) : Inv G (tko s) ∧ Ext s (tko s) := by
  unfold tko
  by_cases c : (s.S.length : Int) < s.a
  · rw [if_pos c]; exact ⟨h, .refl _⟩
  · rw [if_neg c]
    have hsp := h.sp
    have hpl := h.pl
    refine ⟨⟨rfl, Nat.zero_le _, Int.le_refl _, Int.le_refl _, h.a0, by show s.a ≤ (s.S.length : Nat); omega, by show s.S.length ≤ 64; omega, h.wl, fun m hm => ?_, fun x hx => ?_⟩, ?_, Int.le_refl _⟩
    · obtain ⟨m1, _⟩ := h.msgs m hm
      refine ⟨by show m.1 ≤ s.t + 1; omega, fun e => ?_⟩
      have e : m.1 = s.t + 1 := e
      omega
    · have hx : x ∈ s.S := hx
      rw [h.pre] at hx
      exact h.good x (List.mem_of_mem_take hx)
    · show s.S.take s.a.toNat = s.P.take s.a.toNat
      rw [h.pre, List.take_take, Nat.min_eq_left (by omega)]
end F
end Go.Proofs.YtiolfkmkbccndaaGreatDoor
end
section
/- Plain law: entries that set keys lead from state to state; the state stays in order. -/
namespace Go.Proofs.YtiolfkmkbccndaaGreatDoor
open Sym
namespace F
abbrev Ent := Int × Int × List UInt8 × List UInt8
def ents : Nat → List Txt → List Ent
  | _, [] => []
  | k, x :: l => ((k : Int), 0, kSet, x) :: ents (k + 1) l
def runT (r : List Row) (l : List Txt) : List Row := l.foldl (fun st x => wth (spA x) (spB x) false st) r
def okT (x : Txt) : Prop := spH x = true ∧ key (spA x) = true ∧ value (spB x) = true ∧ x.length ≤ 120
def okTs (l : List Txt) : Prop := (∀ x ∈ l, okT x) ∧ l.length ≤ 64
def txs (es : List Ent) : List Txt := es.map fun e => e.2.2.2
def e0 : Ent := (0, 0, [], [])
end F
theorem wth_in (k v : List UInt8) : ∀ (d : Bool) (l : List F.Row) (b : F.Row), b ∈ F.wth k v d l → (d = false ∧ b = (k, v)) ∨ b ∈ l
  | d, [], b, h => by
    unfold F.wth at h
    cases d with
    | true => simp at h
    | false => simp at h; exact .inl ⟨rfl, h⟩
  | d, r :: l, b, h => by
    unfold F.wth at h
    split at h
    · rcases wth_in k v d l b h with h | h
      · exact .inl h
      · exact .inr (List.mem_cons_of_mem _ h)
    · split at h
      · rename_i c
        rcases List.mem_cons.1 h with h | h
        · exact .inl ⟨c.1, h⟩
        · rcases List.mem_cons.1 h with h | h
          · exact .inr (by rw [h]; exact List.mem_cons_self ..)
          · rcases wth_in k v true l b h with h | h
            · cases h.1
            · exact .inr (List.mem_cons_of_mem _ h)
      · rcases List.mem_cons.1 h with h | h
        · exact .inr (by rw [h]; exact List.mem_cons_self ..)
        · rcases wth_in k v d l b h with h | h
          · exact .inl h
          · exact .inr (List.mem_cons_of_mem _ h)
theorem wth_srt (k v : List UInt8) : ∀ (d : Bool) (l : List F.Row), F.srt l = true → F.srt (F.wth k v d l) = true
  | d, [], _ => by unfold F.wth; cases d <;> rfl
  | d, r :: l, h => by
    obtain ⟨h1, h2⟩ := srt_cons.1 h
    unfold F.wth
    split
    · exact wth_srt k v d l h2
    · rename_i c
      split
      · rename_i c2
        have ht := wth_srt k v true l h2
        have hm : ∀ b ∈ F.wth k v true l, F.lt r.1 b.1 = true := fun b hb => by
          rcases wth_in k v true l b hb with h | h
          · cases h.1
          · exact h1 b h
        refine srt_cons.2 ⟨fun b hb => ?_, srt_cons.2 ⟨hm, ht⟩⟩
        rcases List.mem_cons.1 hb with h | h
        · rw [h]; exact c2.2
        · exact lt_trans' c2.2 (hm b h)
      · rename_i c2
        refine srt_cons.2 ⟨fun b hb => ?_, wth_srt k v d l h2⟩
        rcases wth_in k v d l b hb with ⟨hd, h⟩ | h
        · rw [h]
          rcases lt_tri r.1 k with q | q | q
          · exact q
          · exact absurd q c
          · exact absurd ⟨hd, q⟩ c2
        · exact h1 b h
theorem ck_of : ∀ (l : List F.Row) (p : Option (List UInt8)), (∀ k, p = some k → ∀ r ∈ l, F.lt k r.1 = true) → F.srt l = true → (∀ r ∈ l, F.key r.1 = true ∧ F.value r.2 = true) → F.ck p l = 0
  | [], p, _, _, _ => by cases p <;> rfl
  | r :: l, p, hp, hs, hk => by
    obtain ⟨h1, h2⟩ := srt_cons.1 hs
    obtain ⟨k1, k2⟩ := hk r (List.mem_cons_self ..)
    rw [ck_cons, if_neg (by rw [k1, k2]; simp)]
    have hb : F.bad p r.1 = false := by
      cases p with
      | none => rfl
      | some k =>
        have := hp k rfl r (List.mem_cons_self ..)
        simp [F.bad, this]
    rw [if_neg (by rw [hb]; decide)]
    exact ck_of l (some r.1) (fun k e b hb => by cases e; exact h1 b hb) h2 fun b hb => hk b (List.mem_cons_of_mem _ hb)
theorem wth_ok {r : List F.Row} (hr : F.chk r = 0) (hl : r.length + 1 ≤ 64) {k v : List UInt8} (hk : F.key k = true) (hv : F.value v = true) : F.chk (F.wth k v false r) = 0 ∧ (F.wth k v false r).length ≤ r.length + 1 := by
  obtain ⟨c1, c2, c3⟩ := chk0 hr
  have hlen : (F.wth k v false r).length ≤ r.length + 1 := by
    rw [wth_len c2]
    split <;> omega
  refine ⟨?_, hlen⟩
  unfold F.chk
  rw [if_neg (by omega)]
  refine ck_of _ none (fun k e => by cases e) (wth_srt k v false r c2) fun b hb => ?_
  rcases wth_in k v false r b hb with ⟨_, h⟩ | h
  · rw [h]; exact ⟨hk, hv⟩
  · exact c3 b h
theorem chk_short {r : List F.Row} (hr : F.chk r = 0) : F.short r := by
  obtain ⟨_, _, c3⟩ := chk0 hr
  intro b hb
  obtain ⟨h1, h2⟩ := c3 b hb
  unfold F.key at h1
  unfold F.value at h2
  rw [Bool.and_eq_true, decide_eq_true_eq] at h1 h2
  omega
theorem step_set {r : List F.Row} (hr : F.chk r = 0) (hl : r.length + 1 ≤ 64) {n : Int} (hn : 1 ≤ n ∧ n ≤ 500) {x : F.Txt} (hx : F.okT x) :
    F.stE r n 0 F.kSet x = 0 ∧ F.stR r n 0 F.kSet x = F.wth (F.spA x) (F.spB x) false r := by
  obtain ⟨x1, x2, x3, x4⟩ := hx
  obtain ⟨w1, w2⟩ := wth_ok hr hl x2 x3
  have hE : F.enE n 0 F.kSet x = 0 := by
    unfold F.enE
    have h1 : (F.inb n 1 500 && F.inb 0 0 200000) = true := by
      unfold F.inb
      simp
      omega
    rw [h1, if_neg (by decide), if_neg (by rintro (h | h); · omega
                                           · exact absurd h (by decide)), if_neg (by decide)]
  have hS : F.setE r (F.spA x) (F.spB x) = 0 := by
    unfold F.setE
    rw [if_pos hr, if_neg (by rw [x2, x3]; simp), if_neg (by omega)]
  have hK : F.stK r F.kSet (F.spA x) (F.spB x) (F.spH x) = 0 := by
    unfold F.stK
    rw [if_pos rfl, x1, if_neg (by decide)]
    exact hS
  refine ⟨?_, ?_⟩
  · unfold F.stE
    rw [if_pos hr, if_pos hE]
    exact hK
  · unfold F.stR
    rw [if_pos ⟨hr, hE⟩]
    unfold F.stL
    rw [if_pos hK, if_pos rfl]
theorem runT_ok : ∀ (l : List F.Txt) (r : List F.Row), (∀ x ∈ l, F.okT x) → F.chk r = 0 → r.length + l.length ≤ 64 → F.chk (F.runT r l) = 0 ∧ (F.runT r l).length ≤ r.length + l.length
  | [], r, _, hr, hl => ⟨hr, Nat.le_refl _⟩
  | x :: l, r, hx, hr, hl => by
    rw [List.length_cons] at hl ⊢
    obtain ⟨x1, x2, x3, x4⟩ := hx x (List.mem_cons_self ..)
    obtain ⟨w1, w2⟩ := wth_ok hr (by omega) x2 x3
    obtain ⟨a, b⟩ := runT_ok l _ (fun y hy => hx y (List.mem_cons_of_mem _ hy)) w1 (by omega)
    exact ⟨a, by show (F.runT (F.wth (F.spA x) (F.spB x) false r) l).length ≤ _; omega⟩
theorem runT_succ (l : List F.Txt) (k : Nat) (hk : k < l.length) : F.runT [] (l.take (k + 1)) = F.wth (F.spA (l.getD k [])) (F.spB (l.getD k [])) false (F.runT [] (l.take k)) := by
  unfold F.runT
  rw [List.take_add_one, List.foldl_append, List.getD_eq_getElem?_getD, List.getElem?_eq_getElem hk]
  rfl
theorem ents_len : ∀ (j : Nat) (l : List F.Txt), (F.ents j l).length = l.length
  | _, [] => rfl
  | j, x :: l => by rw [F.ents, List.length_cons, List.length_cons, ents_len (j + 1) l]
theorem ents_get : ∀ (l : List F.Txt) (j k : Nat), k < l.length → (F.ents j l).getD k F.e0 = (((j + k : Nat) : Int), 0, F.kSet, l.getD k [])
  | [], j, k, h => by cases h
  | x :: l, j, 0, h => rfl
  | x :: l, j, k + 1, h => by
    have := ents_get l (j + 1) k (by simpa using h)
    rw [F.ents]
    show (F.ents (j + 1) l).getD k F.e0 = _
    rw [this, show j + 1 + k = j + (k + 1) by omega]
    rfl
theorem ents_txs : ∀ (l : List F.Txt) (j : Nat), F.txs (F.ents j l) = l
  | [], _ => rfl
  | x :: l, j => by
    show x :: F.txs (F.ents (j + 1) l) = _
    rw [ents_txs l]
end Go.Proofs.YtiolfkmkbccndaaGreatDoor
end
