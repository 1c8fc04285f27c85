/- Part of a claim: lemmas on the way to its theorem; each states its own conditions. -/
import Derived.Test.YtbkpgpkeecnjpaaJa
import Derived.Test.YtbkpgpkeecnjpaaSym30
namespace Go.Proofs.Ytbkpgpkeecnjpaa
open Sym Go.RowKit
noncomputable section
set_option maxRecDepth 100000
set_option maxHeartbeats 4000000



namespace F
/-- Each run of equal elements once, behind those that there are. -/
def uq (acc : List Sp) : List Sp → List Sp
  | [] => acc
  | x :: r => uq (if acc.getLast? = some x then acc else acc ++ [x]) r
def uniq (l : List Sp) : List Sp := uq [] l
def uqB (l : List Sp) : Bool := decide (uniq l = l)
/-- The row behind slices.Compact. -/
def uqRow (l : List Sp) : List Sp := uniq l ++ List.replicate (l.length - (uniq l).length) sp0
end F
def cuts_cpt : Cuts := [(4, [0, 3], 1), (9, [4, 0, 5, 3], 1)]

theorem cpt_t0 (l : List (Int × Int × Int × Int × Int × Int)) (n : Nat) : symI C_cmpP cuts_cpt Try.f61.results.toList ([.own 2 l 53] : Heap cod) 400 [.code (codeOf Try.f61)] ⟨argsS Try.f61 [.c (.own 0 n)], ([.own 2 l 53] : Heap cod)⟩ =
 cond (decide (Int.ofNat n < 2)) (
 .ret (.fin (.c (.own 0 (n))) [.own 2 l 53])) (
 .ret (.cut (cutAt Try.f61 4) ⟨tmG 57 [(0, .c (.own 0 (n))), (2, .c (.int .i64 1))], [.own 2 l 53]⟩)) := by kernel_rfl


noncomputable def st_cpt_4 (l : List (Int × Int × Int × Int × Int × Int)) (n : Nat) (k : Int) : St cod := ⟨tmG 57 [(0, .c (.own 0 (n))), (2, .c (.int .i64 k))], [.own 2 l 53]⟩


theorem cpt_t4 (l : List (Int × Int × Int × Int × Int × Int)) (n : Nat) (k : Int) : symI C_cmpP cuts_cpt Try.f61.results.toList ([.own 2 l 53] : Heap cod) 400 (cutAt Try.f61 4) (st_cpt_4 l n k) =
 cond (decide (k < Int.ofNat n)) (
 .need (((0 : Int) ≤ k ∧ k < Int.ofNat n)) (
 .need (0 + Int.toNat k < List.length l) (
 .need (i64ok (k - 1)) (
 .need (((0 : Int) ≤ k - 1 ∧ k - 1 < Int.ofNat n)) (
 .need (0 + Int.toNat (k - 1) < List.length l) (
 cond (decide ((List.getD l (0 + Int.toNat k) (cod 2).d).1 = (List.getD l (0 + Int.toNat (k - 1)) (cod 2).d).1) &&   (decide ((List.getD l (0 + Int.toNat k) (cod 2).d).2.1 = (List.getD l (0 + Int.toNat (k - 1)) (cod 2).d).2.1) &&     (decide ((List.getD l (0 + Int.toNat k) (cod 2).d).2.2.1 = (List.getD l (0 + Int.toNat (k - 1)) (cod 2).d).2.2.1) &&       (decide           ((List.getD l (0 + Int.toNat k) (cod 2).d).2.2.2.1 =             (List.getD l (0 + Int.toNat (k - 1)) (cod 2).d).2.2.2.1) &&         (decide             ((List.getD l (0 + Int.toNat k) (cod 2).d).2.2.2.2.1 =               (List.getD l (0 + Int.toNat (k - 1)) (cod 2).d).2.2.2.2.1) &&           decide             ((List.getD l (0 + Int.toNat k) (cod 2).d).2.2.2.2.2 =               (List.getD l (0 + Int.toNat (k - 1)) (cod 2).d).2.2.2.2.2)))))) (
  .need (((0 : Int) ≤ k ∧ k ≤ Int.ofNat n)) (
  .ret (.cut (cutAt Try.f61 9) ⟨tmG 55 [(0, .c (.own 0 (n))), (2, .c (.int .i64 k)), (0, .c (.slc 0 (0 + Int.toNat k) (n - Int.toNat k) false)), (0, .c (.int .i64 1))], [.own 2 l 53]⟩))) (
  .need (i64ok (k + 1)) (
  .ret (.cut (cutAt Try.f61 4) ⟨tmG 57 [(0, .c (.own 0 (n))), (2, .c (.int .i64 (k + 1)))], [.own 2 l 53]⟩))))))))) (
 .ret (.fin (.c (.own 0 (n))) [.own 2 l 53])) := by kernel_rfl


noncomputable def st_cpt_9 (l : List (Int × Int × Int × Int × Int × Int)) (n : Nat) (r : List (Int × Int × Int × Int × Int × Int)) (k j : Int) (s m : Nat) : St cod := ⟨tmG 55 [(0, .c (.own 0 (n))), (2, .c (.int .i64 k)), (0, .c (.slc 0 s m false)), (0, .c (.int .i64 j))], ([.own 2 r 53] : Heap cod)⟩


theorem cpt_t9 (l : List (Int × Int × Int × Int × Int × Int)) (n : Nat) (r : List (Int × Int × Int × Int × Int × Int)) (k j : Int) (s m : Nat) : symI C_cmpP cuts_cpt Try.f61.results.toList ([.own 2 l 53] : Heap cod) 400 (cutAt Try.f61 9) (st_cpt_9 l n r k j s m) =
 cond (decide (j < Int.ofNat m)) (
 .need (((0 : Int) ≤ j ∧ j < Int.ofNat m)) (
 .need (s + Int.toNat j < List.length r) (
 .need (i64ok (j - 1)) (
 .need (((0 : Int) ≤ j - 1 ∧ j - 1 < Int.ofNat m)) (
 .need (s + Int.toNat (j - 1) < List.length r) (
 cond (!(decide ((List.getD r (s + Int.toNat j) (cod 2).d).1 = (List.getD r (s + Int.toNat (j - 1)) (cod 2).d).1) &&     (decide ((List.getD r (s + Int.toNat j) (cod 2).d).2.1 = (List.getD r (s + Int.toNat (j - 1)) (cod 2).d).2.1) &&       (decide           ((List.getD r (s + Int.toNat j) (cod 2).d).2.2.1 = (List.getD r (s + Int.toNat (j - 1)) (cod 2).d).2.2.1) &&         (decide             ((List.getD r (s + Int.toNat j) (cod 2).d).2.2.2.1 =               (List.getD r (s + Int.toNat (j - 1)) (cod 2).d).2.2.2.1) &&           (decide               ((List.getD r (s + Int.toNat j) (cod 2).d).2.2.2.2.1 =                 (List.getD r (s + Int.toNat (j - 1)) (cod 2).d).2.2.2.2.1) &&             decide               ((List.getD r (s + Int.toNat j) (cod 2).d).2.2.2.2.2 =                 (List.getD r (s + Int.toNat (j - 1)) (cod 2).d).2.2.2.2.2))))))) (
  .need (((0 : Int) ≤ j ∧ j < Int.ofNat m)) (
  .need (s + Int.toNat j < List.length r) (
  .need (((0 : Int) ≤ k ∧ k < Int.ofNat n)) (
  .need (0 + Int.toNat k < List.length r) (
  .need (i64ok (k + 1)) (
  .need (i64ok (j + 1)) (
  .ret (.cut (cutAt Try.f61 9) ⟨tmG 55 [(0, .c (.own 0 (n))), (2, .c (.int .i64 (k + 1))), (0, .c (.slc 0 (s) (m) false)), (0, .c (.int .i64 (j + 1)))], [.own 2 (List.set r (0 + Int.toNat k)   ((List.getD r (s + Int.toNat j) (cod 2).d).1, (List.getD r (s + Int.toNat j) (cod 2).d).2.1,     (List.getD r (s + Int.toNat j) (cod 2).d).2.2.1, (List.getD r (s + Int.toNat j) (cod 2).d).2.2.2.1,     (List.getD r (s + Int.toNat j) (cod 2).d).2.2.2.2.1, (List.getD r (s + Int.toNat j) (cod 2).d).2.2.2.2.2)) 53]⟩)))))))) (
  .need (i64ok (j + 1)) (
  .ret (.cut (cutAt Try.f61 9) ⟨tmG 55 [(0, .c (.own 0 (n))), (2, .c (.int .i64 k)), (0, .c (.slc 0 (s) (m) false)), (0, .c (.int .i64 (j + 1)))], [.own 2 r 53]⟩))))))))) (
 .need (((0 : Int) ≤ k ∧ k ≤ Int.ofNat n)) (
 .need (0 + Int.toNat k + (n - Int.toNat k) ≤ List.length r) (
 .need (((0 : Int) ≤ k ∧ k ≤ Int.ofNat n)) (
 .ret (.fin (.c (.slc 0 0 (Int.toNat k) false)) [.own 2 ((List.take (0 + Int.toNat k) r) ++ ((List.replicate (n - Int.toNat k) (0, 0, 0, 0, 0, 0)) ++ (List.drop (0 + Int.toNat k + (n - Int.toNat k)) r))) 53]))))) := by kernel_rfl



/-- A row of kind t that the call owns. -/
def asOwn (t : Nat) (ty : TypeId) : HObj cod → Option (List (cod t).α)
  | .own u l ty' => if h : u = t then (if ty' = ty then some (h ▸ l) else none) else none
  | _ => none
noncomputable def s_cpt0 : Summ cod := fun args H => match args, H with
  | [.c (.own 0 n)], [o0] => (match asOwn 2 53 o0 with
    | some l => .need (n = List.length l ∧ n ≤ 1000000) (.ite (F.uqB l) (.ret (.c (.own 0 n), [.own 2 l 53])) (.ret (.c (.slc 0 0 (List.length (F.uniq l)) false), [.own 2 (F.uqRow l) 53])))
    | none => .fail)
  | _, _ => .fail
noncomputable def s_cpt : Summ cod := fun args H => match args, H with
  | [.c (.own 0 n)], [o0] => (match asOwn 2 53 o0 with
    | some l => .need (n = List.length l ∧ n ≤ 1000000) (.ret (.c (.slc 0 0 (List.length (F.uniq l)) false), [.own 2 (F.uqRow l) 53]))
    | none => .fail)
  | _, _ => .fail


theorem ite_yes {c : Prop} [Decidable c] {a b : Prop} (h : c) (x : a) : if c then a else b := by rw [if_pos h]; exact x
theorem ite_no {c : Prop} [Decidable c] {a b : Prop} (h : ¬ c) (x : b) : if c then a else b := by rw [if_neg h]; exact x
theorem asOwn_spec {t : Nat} {ty : TypeId} {o : HObj cod} {l : List (cod t).α} (h : asOwn t ty o = some l) : o = .own t l ty := by
  unfold asOwn at h
  split at h
  · split at h
    · rename_i e
      subst e
      split at h
      · rename_i e
        subst e
        cases h
        rfl
      · cases h
    · cases h
  · cases h
def F.e6 (x y : F.Sp) : Bool := decide (x.1 = y.1) && (decide (x.2.1 = y.2.1) && (decide (x.2.2.1 = y.2.2.1) && (decide (x.2.2.2.1 = y.2.2.2.1) && (decide (x.2.2.2.2.1 = y.2.2.2.2.1) && decide (x.2.2.2.2.2 = y.2.2.2.2.2)))))
theorem eq6 (x y : F.Sp) : F.e6 x y = decide (x = y) := by
  obtain ⟨a1, a2, a3, a4, a5, a6⟩ := x
  obtain ⟨b1, b2, b3, b4, b5, b6⟩ := y
  unfold F.e6
  rw [Bool.eq_iff_iff]
  simp
theorem drop_getD {l : List F.Sp} {i : Nat} (h : i < l.length) : l.drop i = l.getD i F.sp0 :: l.drop (i + 1) := by
  rw [List.drop_eq_getElem_cons h, List.getD, List.getElem?_eq_getElem h]
  rfl
theorem take_getD {l : List F.Sp} {i : Nat} (h : i < l.length) : l.take (i + 1) = l.take i ++ [l.getD i F.sp0] := by
  rw [List.take_succ_eq_append_getElem h, List.getD, List.getElem?_eq_getElem h]
  rfl
theorem cpt_l9 (l : List F.Sp) (n : Nat) (hn : n = l.length) (hm : n ≤ 1000000) (b0 : Base) (hb : b0.n = 1) (R : SV) (H' : Heap cod) (s m : Nat) (hs : s + m = n)
    (hR : F.uniq l ≠ l → SV.c (.slc 0 0 (List.length (F.uniq l)) false) = R ∧ [.own 2 (F.uqRow l) 53] = H') :
    ∀ (q : Nat) (r : List F.Sp) (k j : Int), 1 ≤ j → j + q = m → 0 ≤ k → k.toNat < s + j.toNat → r.length = n → (∀ i, k.toNat ≤ i → r.getD i F.sp0 = l.getD i F.sp0) → F.uniq l = F.uq (r.take k.toNat) (l.drop (s + j.toNat)) → (r.take k.toNat).getLast? = some (l.getD (s + j.toNat - 1) F.sp0) →
    Sym.Runs Try.prog b0 (cutAt Try.f61 9) (st_cpt_9 l n r k j s m) (Sym.EndsI Try.prog Try.f61 ([.own 2 l 53] : Heap cod) R H') := by
  intro q
  induction q with
  | zero =>
    intro r k j h1 h2 h3 h4 h5 h6 h7 h8
    have hp : s + j.toNat = n := by omega
    rw [hp, List.drop_eq_nil_of_le (by omega), F.uq] at h7
    have hlen : (F.uniq l).length = k.toNat := by rw [h7, List.length_take]; omega
    obtain ⟨g1, g2⟩ := hR (fun e => by
      have := congrArg List.length e
      omega)
    refine Runs.goI (cfg := C_cmpP) L_cmpP_ok mixed cuts_cpt 400 (H := ([.own 2 l 53] : Heap cod)) hb (cpt_t9 l n r k j s m) ?_
    simp only [T.wp, T.wp_cond, Aft, decide_eq_true_eq, Nat.zero_add]
    have i1 : (0 : Int) ≤ k ∧ k ≤ Int.ofNat n := by simp only [Int.ofNat_eq_natCast]; omega
    refine ite_no (by simp only [Int.ofNat_eq_natCast]; omega) ⟨i1, by omega, i1, ?_, ?_⟩
    · rw [← g1, hlen]
    · rw [← g2]
      have e1 : List.drop (k.toNat + (n - k.toNat)) r = [] := List.drop_eq_nil_of_le (by omega)
      rw [e1, List.append_nil, ← h7]
      unfold F.uqRow
      rw [hlen, ← hn]
      rfl
  | succ q ih =>
    intro r k j h1 h2 h3 h4 h5 h6 h7 h8
    have hp : s + j.toNat < l.length := by omega
    have j1 : (j - 1).toNat = j.toNat - 1 := by omega
    have hj : (j + 1).toNat = j.toNat + 1 := by omega
    have hk : (k + 1).toNat = k.toNat + 1 := by omega
    have e1 : r.getD (s + j.toNat) F.sp0 = l.getD (s + j.toNat) F.sp0 := h6 _ (by omega)
    have e2 : r.getD (s + (j - 1).toNat) F.sp0 = l.getD (s + j.toNat - 1) F.sp0 := by
      rw [j1, show s + (j.toNat - 1) = s + j.toNat - 1 by omega]
      exact h6 _ (by omega)
    rw [drop_getD hp, F.uq, h8] at h7
    refine Runs.goI (cfg := C_cmpP) L_cmpP_ok mixed cuts_cpt 400 (H := ([.own 2 l 53] : Heap cod)) hb (cpt_t9 l n r k j s m) ?_
    simp only [T.wp, T.wp_cond, Aft, decide_eq_true_eq, Nat.zero_add]
    have i1 : (0 : Int) ≤ j ∧ j < Int.ofNat m := by simp only [Int.ofNat_eq_natCast]; omega
    have i2 : (0 : Int) ≤ j - 1 ∧ j - 1 < Int.ofNat m := by simp only [Int.ofNat_eq_natCast]; omega
    refine ite_yes i1.2 ⟨i1, by omega, by unfold i64ok; omega, i2, by omega, ?_⟩
    by_cases c : l.getD (s + j.toNat - 1) F.sp0 = l.getD (s + j.toNat) F.sp0
    · rw [if_pos (by rw [c])] at h7
      have nx := ih r k (j + 1) (by omega) (by omega) h3 (by omega) h5 h6 (by rw [hj]; exact h7) (by rw [hj, show s + (j.toNat + 1) - 1 = s + j.toNat by omega, h8, c])
      refine ite_no ?_ ⟨by unfold i64ok; omega, nx⟩
      change ¬ (!F.e6 (r.getD (s + j.toNat) F.sp0) (r.getD (s + (j - 1).toNat) F.sp0)) = true
      rw [eq6, e1, e2, c, decide_eq_true rfl]
      decide
    · have c' : ¬ (some (l.getD (s + j.toNat - 1) F.sp0) = some (l.getD (s + j.toNat) F.sp0)) := fun e => c (Option.some.inj e)
      rw [if_neg c'] at h7
      have hkl : k.toNat < r.length := by omega
      have ht : (r.set k.toNat (l.getD (s + j.toNat) F.sp0)).take (k + 1).toNat = r.take k.toNat ++ [l.getD (s + j.toNat) F.sp0] := by
        rw [hk, take_getD (by rw [List.length_set]; omega), List.take_set_of_le (Nat.le_refl _)]
        congr 2
        rw [List.getD, List.getElem?_set_self hkl]
        rfl
      have nx := ih (r.set k.toNat (l.getD (s + j.toNat) F.sp0)) (k + 1) (j + 1) (by omega) (by omega) (by omega) (by omega) (by rw [List.length_set]; exact h5) (fun i hi => by
        rw [← h6 i (by omega)]
        simp only [List.getD]
        rw [List.getElem?_set_ne (by omega)]) (by rw [ht, hj]; exact h7) (by rw [ht, hj, show s + (j.toNat + 1) - 1 = s + j.toNat by omega]; simp)
      rw [← e1] at nx
      refine ite_yes ?_ ⟨i1, by omega, by simp only [Int.ofNat_eq_natCast]; omega, by omega, by unfold i64ok; omega, by unfold i64ok; omega, nx⟩
      change (!F.e6 (r.getD (s + j.toNat) F.sp0) (r.getD (s + (j - 1).toNat) F.sp0)) = true
      rw [eq6, e1, e2, decide_eq_false (fun e => c e.symm)]
      rfl
theorem cpt_l4 (l : List F.Sp) (n : Nat) (hn : n = l.length) (hm : n ≤ 1000000) (b0 : Base) (hb : b0.n = 1) (R : SV) (H' : Heap cod)
    (hR : F.uniq l ≠ l → SV.c (.slc 0 0 (List.length (F.uniq l)) false) = R ∧ [.own 2 (F.uqRow l) 53] = H') (hR2 : F.uniq l = l → SV.c (.own 0 n) = R ∧ [.own 2 l 53] = H') :
    ∀ (q : Nat) (k : Int), 1 ≤ k → k + q = n → F.uniq l = F.uq (l.take k.toNat) (l.drop k.toNat) → (l.take k.toNat).getLast? = some (l.getD (k.toNat - 1) F.sp0) →
    Sym.Runs Try.prog b0 (cutAt Try.f61 4) (st_cpt_4 l n k) (Sym.EndsI Try.prog Try.f61 ([.own 2 l 53] : Heap cod) R H') := by
  intro q
  induction q with
  | zero =>
    intro k h1 h2 h3 h4
    rw [List.drop_eq_nil_of_le (by omega), F.uq, List.take_of_length_le (by omega)] at h3
    refine Runs.goI (cfg := C_cmpP) L_cmpP_ok mixed cuts_cpt 400 (H := ([.own 2 l 53] : Heap cod)) hb (cpt_t4 l n k) ?_
    simp only [T.wp, T.wp_cond, Aft, decide_eq_true_eq, Nat.zero_add]
    exact ite_no (by simp only [Int.ofNat_eq_natCast]; omega) (hR2 h3)
  | succ q ih =>
    intro k h1 h2 h3 h4
    have hp : k.toNat < l.length := by omega
    have j1 : (k - 1).toNat = k.toNat - 1 := by omega
    have hk : (k + 1).toNat = k.toNat + 1 := by omega
    rw [drop_getD hp, F.uq, h4] at h3
    refine Runs.goI (cfg := C_cmpP) L_cmpP_ok mixed cuts_cpt 400 (H := ([.own 2 l 53] : Heap cod)) hb (cpt_t4 l n k) ?_
    simp only [T.wp, T.wp_cond, Aft, decide_eq_true_eq, Nat.zero_add]
    have i1 : (0 : Int) ≤ k ∧ k < Int.ofNat n := by simp only [Int.ofNat_eq_natCast]; omega
    have i2 : (0 : Int) ≤ k - 1 ∧ k - 1 < Int.ofNat n := by simp only [Int.ofNat_eq_natCast]; omega
    refine ite_yes i1.2 ⟨i1, by omega, by unfold i64ok; omega, i2, by omega, ?_⟩
    by_cases c : l.getD (k.toNat - 1) F.sp0 = l.getD k.toNat F.sp0
    · rw [if_pos (by rw [c])] at h3
      have nx := cpt_l9 l n hn hm b0 hb R H' k.toNat (n - k.toNat) (by omega) hR (n - k.toNat - 1) l k 1 (by omega) (by omega) (by omega) (by simp) hn.symm (fun i _ => rfl) h3 (by rw [h4, c]; rfl)
      refine ite_yes ?_ ⟨by simp only [Int.ofNat_eq_natCast]; omega, nx⟩
      change F.e6 (l.getD k.toNat F.sp0) (l.getD (k - 1).toNat F.sp0) = true
      rw [eq6, j1, c, decide_eq_true rfl]
    · have c' : ¬ (some (l.getD (k.toNat - 1) F.sp0) = some (l.getD k.toNat F.sp0)) := fun e => c (Option.some.inj e)
      rw [if_neg c'] at h3
      have nx := ih (k + 1) (by omega) (by omega) (by rw [hk, take_getD hp]; exact h3) (by rw [hk, take_getD hp]; simp)
      refine ite_no ?_ ⟨by unfold i64ok; omega, nx⟩
      change ¬ F.e6 (l.getD k.toNat F.sp0) (l.getD (k - 1).toNat F.sp0) = true
      rw [eq6, j1, decide_eq_false (fun e => c e.symm)]
      decide
theorem cpt0_sound : SoundI Try.prog cod 61 s_cpt0 := tree_soundI (cfg := C_cmpP) Try.func61 rfl rfl _ fun args H r H' hg b0 hb => by
  unfold s_cpt0 at hg
  split at hg
  · split at hg
    · rename_i l hx
      cases asOwn_spec hx
      rename_i n _
      simp only [T.gives, T.wp, Prod.mk.injEq, F.uqB, decide_eq_true_eq, decide_eq_false_iff_not] at hg
      obtain ⟨⟨hn, hm⟩, g1, g2⟩ := hg
      have hb : b0.n = 1 := hb
      refine Runs.goI (cfg := C_cmpP) L_cmpP_ok mixed cuts_cpt 400 (H := ([.own 2 l 53] : Heap cod)) hb (cpt_t0 l n) ?_
      simp only [T.wp, T.wp_cond, Aft, decide_eq_true_eq]
      by_cases c : n < 2
      · refine ite_yes (by simp only [Int.ofNat_eq_natCast]; omega) (g1 ?_)
        match l, hn with
        | [], _ => rfl
        | [x], _ => rfl
        | _ :: _ :: _, hn => simp at hn; omega
      · have hp : 0 < l.length := by omega
        have nx := cpt_l4 l n hn hm b0 hb r H' g2 g1 (n - 1) 1 (by omega) (by omega) (by
          match l, hp with
          | x :: t, _ => rfl) (by
          match l, hp with
          | x :: t, _ => rfl)
        exact ite_no (by simp only [Int.ofNat_eq_natCast]; omega) nx
    · exact hg.elim
  · exact hg.elim
theorem SoundI.soft {g : FuncId} {s s0 : Summ cod} (h0 : SoundI Try.prog cod g s0) (h : ∀ args H r H', (s args H).gives (r, H') → ∃ r0, (s0 args H).gives (r0, H') ∧ r = r0.mapC Cell.asSl) : SoundI Try.prog cod g s := by
  refine ⟨h0.enters, fun args H env w vs r H' G ha hg => ?_⟩
  obtain ⟨r0, hg0, rfl⟩ := h args H r H' hg
  refine (h0.calls args H env w vs r0 H' G ha hg0).mono ?_
  rintro e w' ⟨v, env', h1, h2, h3, h4⟩
  exact ⟨v, env', h1, h2, vrel_map (fun c v hc => crel_asSl hc) h3, h4⟩
theorem uqB_iff {l : List F.Sp} : F.uqB l = true ↔ F.uniq l = l := decide_eq_true_iff
theorem uqRow_same {l : List F.Sp} (c : F.uniq l = l) : F.uqRow l = l := by
  unfold F.uqRow
  rw [c, Nat.sub_self, List.replicate_zero, List.append_nil]
theorem cpt_sound : SoundI Try.prog cod 61 s_cpt := SoundI.soft cpt0_sound fun args H r H' hg => by
  unfold s_cpt at hg
  split at hg
  · split at hg
    · rename_i l hx
      cases asOwn_spec hx
      rename_i n _
      simp only [T.gives, T.wp, Prod.mk.injEq] at hg
      obtain ⟨⟨hn, hm⟩, rfl, rfl⟩ := hg
      by_cases c : F.uniq l = l
      · refine ⟨.c (.own 0 n), ?_, ?_⟩
        · unfold s_cpt0
          simp only [hx]
          refine ⟨⟨hn, hm⟩, fun _ => ?_, fun h => absurd (uqB_iff.2 c) (by rw [h]; decide)⟩
          show (_, _) = (_, _)
          rw [uqRow_same c]
        · rw [c, hn]
          rfl
      · refine ⟨.c (.slc 0 0 (List.length (F.uniq l)) false), ?_, rfl⟩
        unfold s_cpt0
        simp only [hx]
        exact ⟨⟨hn, hm⟩, fun h => absurd (uqB_iff.1 h) c, fun _ => rfl⟩
    · exact hg.elim
  · exact hg.elim

end
end Go.Proofs.Ytbkpgpkeecnjpaa
