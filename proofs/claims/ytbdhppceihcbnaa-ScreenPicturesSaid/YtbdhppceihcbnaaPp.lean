/- Plain law of the picture: what a cell holds after all writes. -/
import Derived.Test.YtbdhppceihcbnaaPc
namespace Go.Proofs.Ytbdhppceihcbnaa
namespace F
/-- A view's numbers: centre, scale, columns, rows. -/
abbrev Vw := Int × Int × Int × Int × Int
def cel (v : Vw) (q : Int × Int) : Int × Int := (scX v.1 q.1 v.2.2.1 v.2.2.2.1, scX v.2.1 q.2 v.2.2.1 v.2.2.2.2)
def put (LL : List (List Int)) (c : Int × Int) (b : Int) : List (List Int) := LL.set c.2.toNat ((LL.getD c.2.toNat []).set c.1.toNat b)
def stp (w h : Int) (b : Int) (LL : List (List Int)) (c : Int × Int) : List (List Int) := if vis c.1 c.2 w h = true then put LL c b else LL
/-- The first n of some cells written. -/
def dG (w h : Int) (b : Int) (cs : List (Int × Int)) (LL : List (List Int)) : Nat → List (List Int)
  | 0 => LL
  | n + 1 => stp w h b (dG w h b cs LL n) (cs.getD n (0, 0))
def ea (v : Vw) (p : List (Int × Int)) (i : Nat) : Int × Int := cel v (p.getD i (0, 0))
def eb (v : Vw) (p : List (Int × Int)) (i : Nat) : Int × Int := cel v (p.getD ((i + 1) % p.length) (0, 0))
def edgeL (v : Vw) (p : List (Int × Int)) (i : Nat) : List (Int × Int) := line (ea v p i).1 (ea v p i).2 (eb v p i).1 (eb v p i).2
/-- The first n edges of a polygon written. -/
def eG (v : Vw) (p : List (Int × Int)) (LL : List (List Int)) : Nat → List (List Int)
  | 0 => LL
  | n + 1 => dG v.2.2.2.1 v.2.2.2.2 46 (edgeL v p n) (eG v p LL n) (edgeL v p n).length
def lG (v : Vw) (l : List (List (Int × Int))) (LL : List (List Int)) : Nat → List (List Int)
  | 0 => LL
  | n + 1 => eG v (l.getD n []) (lG v l LL n) (l.getD n []).length
def bG (w : Nat) : Nat → List (List Int)
  | 0 => List.replicate 60 []
  | n + 1 => (bG w n).set n (List.replicate w 32)
def pG (v : Vw) (ps : List (Int × Int)) (LL : List (List Int)) : Nat → List (List Int)
  | 0 => LL
  | n + 1 => stp v.2.2.2.1 v.2.2.2.2 111 (pG v ps LL n) (cel v (ps.getD n (0, 0)))
noncomputable def bts (l : List Int) : List UInt8 := l.map (Sym.byteOf (cod 9))
noncomputable def oG (LL : List (List Int)) (h : Nat) : Nat → List (List UInt8)
  | 0 => []
  | n + 1 => oG LL h n ++ [bts (LL.getD (h - 1 - n) [])]
/-- The picture. -/
def pic (v : Vw) (l : List (List (Int × Int))) (ps : List (Int × Int)) : List (List Int) :=
  pG v ps (lG v l (bG v.2.2.2.1.toNat v.2.2.2.2.toNat) l.length) ps.length
def Sh (w h : Int) (LL : List (List Int)) : Prop := LL.length = 60 ∧ ∀ j : Nat, (j : Int) < h → ((LL.getD j []).length : Int) = w
def px (LL : List (List Int)) (x y : Int) : Int := (LL.getD y.toNat []).getD x.toNat 0
theorem gset' {α : Type} (l : List α) (i : Nat) (v d : α) (k : Nat) : (l.set i v).getD k d = if i = k ∧ i < l.length then v else l.getD k d := by
  rw [List.getD_eq_getElem?_getD, List.getElem?_set, List.getD_eq_getElem?_getD]
  by_cases e : i = k
  · subst e
    by_cases h : i < l.length
    · simp [h]
    · simp [h]
  · simp [e]
theorem vis_bd {x y w h : Int} (hv : vis x y w h = true) : (0 ≤ x ∧ x < w) ∧ 0 ≤ y ∧ y < h := by
  unfold vis inb at hv
  simp only [Bool.and_eq_true, decide_eq_true_eq] at hv
  omega
theorem vis_of {x y w h : Int} (hx : 0 ≤ x ∧ x < w) (hy : 0 ≤ y ∧ y < h) : vis x y w h = true := by
  unfold vis inb
  simp only [Bool.and_eq_true, decide_eq_true_eq]
  omega
theorem stp_sh {w h : Int} {LL : List (List Int)} (b : Int) (c : Int × Int) (hS : Sh w h LL) : Sh w h (stp w h b LL c) := by
  unfold stp
  split
  · unfold put
    refine ⟨by rw [List.length_set]; exact hS.1, fun j hj => ?_⟩
    rw [gset']
    split
    · rename_i q
      rw [List.length_set, q.1]
      exact hS.2 j hj
    · exact hS.2 j hj
  · exact hS
theorem stp_px {w h : Int} {LL : List (List Int)} (b : Int) (c : Int × Int) (hh : h ≤ 60) (hS : Sh w h LL) {x y : Int} (hx : 0 ≤ x ∧ x < w) (hy : 0 ≤ y ∧ y < h) :
    px (stp w h b LL c) x y = if c = (x, y) then b else px LL x y := by
  unfold stp
  by_cases hv : vis c.1 c.2 w h = true
  · rw [if_pos hv]
    obtain ⟨v1, v2⟩ := vis_bd hv
    unfold px put
    have hS2 := hS.2 c.2.toNat (by omega)
    rw [gset', hS.1]
    by_cases e : c = (x, y)
    · subst e
      rw [if_pos rfl]
      simp only at hS2
      rw [if_pos ⟨rfl, by simp only; omega⟩, gset', if_pos ⟨rfl, by simp only; omega⟩]
    · rw [if_neg e]
      by_cases e2 : c.2.toNat = y.toNat
      · have e3 : ¬ c.1.toNat = x.toNat := fun h => e (by
          obtain ⟨c1, c2⟩ := c
          simp only at e2 h v1 v2
          rw [Prod.mk.injEq]
          omega)
        rw [if_pos ⟨e2, by omega⟩, gset', if_neg (fun h => e3 h.1), e2]
      · rw [if_neg (fun h => e2 h.1)]
  · rw [if_neg hv]
    have e : ¬ c = (x, y) := fun h => hv (by rw [h]; exact vis_of hx hy)
    rw [if_neg e]
theorem dG_sh {w h : Int} {LL : List (List Int)} (b : Int) (cs : List (Int × Int)) (hS : Sh w h LL) : ∀ n, Sh w h (dG w h b cs LL n)
  | 0 => hS
  | n + 1 => stp_sh b _ (dG_sh b cs hS n)
theorem dG_px {w h : Int} {LL : List (List Int)} (b : Int) (cs : List (Int × Int)) (hh : h ≤ 60) (hS : Sh w h LL) {x y : Int} (hx : 0 ≤ x ∧ x < w) (hy : 0 ≤ y ∧ y < h) :
    ∀ n, px (dG w h b cs LL n) x y = if ∃ k, k < n ∧ cs.getD k (0, 0) = (x, y) then b else px LL x y
  | 0 => by
      rw [if_neg (by rintro ⟨k, hk, _⟩; omega)]
      rfl
  | n + 1 => by
      have ih := dG_px b cs hh hS hx hy n
      unfold dG
      rw [stp_px b _ hh (dG_sh b cs hS n) hx hy, ih]
      by_cases e : cs.getD n (0, 0) = (x, y)
      · rw [if_pos e, if_pos ⟨n, by omega, e⟩]
      · rw [if_neg e]
        by_cases q : ∃ k, k < n ∧ cs.getD k (0, 0) = (x, y)
        · obtain ⟨k, h1, h2⟩ := q
          rw [if_pos ⟨k, h1, h2⟩, if_pos ⟨k, by omega, h2⟩]
        · rw [if_neg q, if_neg (fun ⟨k, h1, h2⟩ => q ⟨k, by
            have : k ≠ n := fun e' => e (by rw [← e']; exact h2)
            omega, h2⟩)]
/-- An edge has a cell on it. -/
def onE (v : Vw) (p : List (Int × Int)) (i : Nat) (c : Int × Int) : Bool := !far (ea v p i).1 (ea v p i).2 && (!far (eb v p i).1 (eb v p i).2 && on (ea v p i).1 (ea v p i).2 (eb v p i).1 (eb v p i).2 c.1 c.2)
theorem on_lp {ax ay bx by_ cx cy : Int} (h : on ax ay bx by_ cx cy = true) : ∃ k : Nat, (k : Int) ≤ ln ax ay bx by_ ∧ (cx, cy) = lp ax ay (bx - ax) (by_ - ay) (ln ax ay bx by_) k := by
  have m1 := ln_bd ax ay bx by_
  unfold on at h
  by_cases hn : ln ax ay bx by_ = 0
  · rw [if_pos hn] at h
    simp only [decide_eq_true_eq] at h
    refine ⟨0, by omega, ?_⟩
    rw [hn, h.1, h.2]
    simp [lp]
  · rw [if_neg hn] at h
    have key : ∀ k : Int, 0 ≤ k → onk ax ay bx by_ cx cy k = true → ∃ k : Nat, (k : Int) ≤ ln ax ay bx by_ ∧ (cx, cy) = lp ax ay (bx - ax) (by_ - ay) (ln ax ay bx by_) k := fun k hk hok => by
      unfold onk at hok
      simp only [decide_eq_true_eq] at hok
      have e : ((k.toNat : Nat) : Int) = k := by omega
      refine ⟨k.toNat, by omega, ?_⟩
      rw [e]
      unfold lp
      rw [Prod.mk.injEq]
      exact hok.2
    split at h
    · exact key _ (abs_nn _).1 h
    · exact key _ (abs_nn _).1 h
theorem line_mem {ax ay bx by_ : Int} (f1 : far ax ay = false) (f2 : far bx by_ = false) (c : Int × Int) : (∃ k, k < (line ax ay bx by_).length ∧ (line ax ay bx by_).getD k (0, 0) = c) ↔ on ax ay bx by_ c.1 c.2 = true := by
  have hL : line ax ay bx by_ = lps ax ay (bx - ax) (by_ - ay) (ln ax ay bx by_) ((ln ax ay bx by_).toNat + 1) := by simp [line, f1, f2]
  have m1 := ln_bd ax ay bx by_
  rw [hL, lps_len]
  constructor
  · rintro ⟨k, hk, e⟩
    rw [lps_get _ _ _ _ _ _ _ _ hk] at e
    exact (lp_facts (k := (k : Int)) ⟨by omega, by omega⟩ c e.symm).1
  · intro h
    obtain ⟨k, hk, e⟩ := on_lp h
    refine ⟨k, by omega, ?_⟩
    rw [lps_get _ _ _ _ _ _ _ _ (by omega)]
    exact e.symm
theorem edge_mem (v : Vw) (p : List (Int × Int)) (i : Nat) (c : Int × Int) : (∃ k, k < (edgeL v p i).length ∧ (edgeL v p i).getD k (0, 0) = c) ↔ onE v p i c = true := by
  unfold edgeL onE
  cases f1 : far (ea v p i).1 (ea v p i).2 with
  | true =>
    have : line (ea v p i).1 (ea v p i).2 (eb v p i).1 (eb v p i).2 = [] := by simp [line, f1]
    rw [this]
    simp
  | false =>
    cases f2 : far (eb v p i).1 (eb v p i).2 with
    | true =>
      have : line (ea v p i).1 (ea v p i).2 (eb v p i).1 (eb v p i).2 = [] := by simp [line, f2]
      rw [this]
      simp
    | false =>
      rw [line_mem f1 f2]
      simp
theorem eG_sh {v : Vw} {p : List (Int × Int)} {LL : List (List Int)} (hS : Sh v.2.2.2.1 v.2.2.2.2 LL) : ∀ n, Sh v.2.2.2.1 v.2.2.2.2 (eG v p LL n)
  | 0 => hS
  | n + 1 => dG_sh _ _ (eG_sh hS n) _
theorem eG_px {v : Vw} {p : List (Int × Int)} {LL : List (List Int)} (hh : v.2.2.2.2 ≤ 60) (hS : Sh v.2.2.2.1 v.2.2.2.2 LL) {x y : Int} (hx : 0 ≤ x ∧ x < v.2.2.2.1) (hy : 0 ≤ y ∧ y < v.2.2.2.2) :
    ∀ n, px (eG v p LL n) x y = if ∃ i, i < n ∧ onE v p i (x, y) = true then 46 else px LL x y
  | 0 => by
      rw [if_neg (by rintro ⟨k, hk, _⟩; omega)]
      rfl
  | n + 1 => by
      have ih := eG_px (p := p) hh hS hx hy n
      unfold eG
      rw [dG_px 46 _ hh (eG_sh hS n) hx hy, ih]
      simp only [edge_mem]
      by_cases e : onE v p n (x, y) = true
      · rw [if_pos e, if_pos ⟨n, by omega, e⟩]
      · rw [if_neg e]
        by_cases q : ∃ i, i < n ∧ onE v p i (x, y) = true
        · obtain ⟨k, h1, h2⟩ := q
          rw [if_pos ⟨k, h1, h2⟩, if_pos ⟨k, by omega, h2⟩]
        · rw [if_neg q, if_neg (fun ⟨k, h1, h2⟩ => q ⟨k, by
            have : k ≠ n := fun e' => e (by rw [← e']; exact h2)
            omega, h2⟩)]
theorem lG_sh {v : Vw} {l : List (List (Int × Int))} {LL : List (List Int)} (hS : Sh v.2.2.2.1 v.2.2.2.2 LL) : ∀ n, Sh v.2.2.2.1 v.2.2.2.2 (lG v l LL n)
  | 0 => hS
  | n + 1 => eG_sh (lG_sh hS n) _
open Classical in
theorem lG_px {v : Vw} {l : List (List (Int × Int))} {LL : List (List Int)} (hh : v.2.2.2.2 ≤ 60) (hS : Sh v.2.2.2.1 v.2.2.2.2 LL) {x y : Int} (hx : 0 ≤ x ∧ x < v.2.2.2.1) (hy : 0 ≤ y ∧ y < v.2.2.2.2) :
    ∀ n, px (lG v l LL n) x y = if ∃ m i, m < n ∧ i < (l.getD m []).length ∧ onE v (l.getD m []) i (x, y) = true then 46 else px LL x y
  | 0 => by
      rw [if_neg (by rintro ⟨k, _, hk, _⟩; omega)]
      rfl
  | n + 1 => by
      have ih := lG_px (l := l) hh hS hx hy n
      unfold lG
      rw [eG_px hh (lG_sh hS n) hx hy, ih]
      by_cases e : ∃ i, i < (l.getD n []).length ∧ onE v (l.getD n []) i (x, y) = true
      · obtain ⟨i, h1, h2⟩ := e
        rw [if_pos ⟨i, h1, h2⟩, if_pos ⟨n, i, by omega, h1, h2⟩]
      · rw [if_neg e]
        by_cases q : ∃ m i, m < n ∧ i < (l.getD m []).length ∧ onE v (l.getD m []) i (x, y) = true
        · obtain ⟨m, i, h0, h1, h2⟩ := q
          rw [if_pos ⟨m, i, h0, h1, h2⟩, if_pos ⟨m, i, by omega, h1, h2⟩]
        · rw [if_neg q, if_neg (fun ⟨m, i, h0, h1, h2⟩ => q ⟨m, i, by
            have : m ≠ n := fun e' => e ⟨i, by rw [← e']; exact h1, by rw [← e']; exact h2⟩
            omega, h1, h2⟩)]
theorem pG_sh {v : Vw} {ps : List (Int × Int)} {LL : List (List Int)} (hS : Sh v.2.2.2.1 v.2.2.2.2 LL) : ∀ n, Sh v.2.2.2.1 v.2.2.2.2 (pG v ps LL n)
  | 0 => hS
  | n + 1 => stp_sh _ _ (pG_sh hS n)
theorem pG_px {v : Vw} {ps : List (Int × Int)} {LL : List (List Int)} (hh : v.2.2.2.2 ≤ 60) (hS : Sh v.2.2.2.1 v.2.2.2.2 LL) {x y : Int} (hx : 0 ≤ x ∧ x < v.2.2.2.1) (hy : 0 ≤ y ∧ y < v.2.2.2.2) :
    ∀ n, px (pG v ps LL n) x y = if ∃ i, i < n ∧ cel v (ps.getD i (0, 0)) = (x, y) then 111 else px LL x y
  | 0 => by
      rw [if_neg (by rintro ⟨k, hk, _⟩; omega)]
      rfl
  | n + 1 => by
      have ih := pG_px (ps := ps) hh hS hx hy n
      unfold pG
      rw [stp_px _ _ hh (pG_sh hS n) hx hy, ih]
      by_cases e : cel v (ps.getD n (0, 0)) = (x, y)
      · rw [if_pos e, if_pos ⟨n, by omega, e⟩]
      · rw [if_neg e]
        by_cases q : ∃ i, i < n ∧ cel v (ps.getD i (0, 0)) = (x, y)
        · obtain ⟨k, h1, h2⟩ := q
          rw [if_pos ⟨k, h1, h2⟩, if_pos ⟨k, by omega, h2⟩]
        · rw [if_neg q, if_neg (fun ⟨k, h1, h2⟩ => q ⟨k, by
            have : k ≠ n := fun e' => e (by rw [← e']; exact h2)
            omega, h2⟩)]
theorem bG_len (w : Nat) : ∀ n, (bG w n).length = 60
  | 0 => List.length_replicate
  | n + 1 => by unfold bG; rw [List.length_set]; exact bG_len w n
theorem bG_get (w : Nat) : ∀ n j, j < n → n ≤ 60 → (bG w n).getD j [] = List.replicate w 32
  | 0, j, h, _ => by omega
  | n + 1, j, h, hn => by
      unfold bG
      rw [gset', bG_len]
      by_cases e : n = j
      · rw [if_pos ⟨e, by omega⟩]
      · rw [if_neg (fun h => e h.1)]
        exact bG_get w n j (by omega) (by omega)
theorem bG_sh {w h : Int} (hw : 0 ≤ w) (hh : 0 ≤ h ∧ h ≤ 60) : Sh w h (bG w.toNat h.toNat) := by
  refine ⟨bG_len _ _, fun j hj => ?_⟩
  rw [bG_get _ _ _ (by omega) (by omega), List.length_replicate]
  omega
theorem pic_sh {v : Vw} (l : List (List (Int × Int))) (ps : List (Int × Int)) (hw : 0 ≤ v.2.2.2.1) (hh : 0 ≤ v.2.2.2.2 ∧ v.2.2.2.2 ≤ 60) : Sh v.2.2.2.1 v.2.2.2.2 (pic v l ps) :=
  pG_sh (lG_sh (bG_sh hw hh) _) _
/-- What the reference says of a cell. -/
def pbP (v : Vw) (ps : List (Int × Int)) (c : Int × Int) : Bool := ps.any fun q => decide (cel v q = c)
def pbE (v : Vw) (p : List (Int × Int)) (c : Int × Int) : Bool := (List.range p.length).any fun i => onE v p i c
def pbL (v : Vw) (l : List (List (Int × Int))) (c : Int × Int) : Bool := l.any fun p => pbE v p c
def pb (v : Vw) (l : List (List (Int × Int))) (ps : List (Int × Int)) (c : Int × Int) : Int := if pbP v ps c = true then 111 else if pbL v l c = true then 46 else 32
theorem any_get {α : Type} (l : List α) (d : α) (f : α → Bool) : l.any f = true ↔ ∃ i, i < l.length ∧ f (l.getD i d) = true := by
  rw [List.any_eq_true]
  constructor
  · rintro ⟨a, ha, hf⟩
    obtain ⟨i, hi, rfl⟩ := List.getElem_of_mem ha
    refine ⟨i, hi, ?_⟩
    rw [List.getD_eq_getElem?_getD, List.getElem?_eq_getElem hi]
    exact hf
  · rintro ⟨i, hi, hf⟩
    rw [List.getD_eq_getElem?_getD, List.getElem?_eq_getElem hi] at hf
    exact ⟨_, List.getElem_mem hi, hf⟩
theorem pbL_iff (v : Vw) (l : List (List (Int × Int))) (c : Int × Int) : pbL v l c = true ↔ ∃ m i, m < l.length ∧ i < (l.getD m []).length ∧ onE v (l.getD m []) i c = true := by
  unfold pbL
  rw [any_get l []]
  constructor
  · rintro ⟨m, hm, h⟩
    unfold pbE at h
    rw [List.any_eq_true] at h
    obtain ⟨i, hi, h⟩ := h
    exact ⟨m, i, hm, List.mem_range.1 hi, h⟩
  · rintro ⟨m, i, hm, hi, h⟩
    refine ⟨m, hm, ?_⟩
    unfold pbE
    rw [List.any_eq_true]
    exact ⟨i, List.mem_range.2 hi, h⟩
theorem pb_eq {v : Vw} (l : List (List (Int × Int))) (ps : List (Int × Int)) (hw : 0 ≤ v.2.2.2.1) (hh : 0 ≤ v.2.2.2.2 ∧ v.2.2.2.2 ≤ 60) {x y : Int} (hx : 0 ≤ x ∧ x < v.2.2.2.1) (hy : 0 ≤ y ∧ y < v.2.2.2.2) :
    px (pic v l ps) x y = pb v l ps (x, y) := by
  unfold pic
  have hb := bG_sh hw hh
  rw [pG_px hh.2 (lG_sh hb _) hx hy, lG_px hh.2 hb hx hy]
  have e32 : px (bG v.2.2.2.1.toNat v.2.2.2.2.toNat) x y = 32 := by
    unfold px
    rw [bG_get _ _ _ (by omega) (by omega), List.getD_eq_getElem?_getD, List.getElem?_replicate, if_pos (by omega)]
    rfl
  rw [e32]
  unfold pb
  have e1 : (∃ i, i < ps.length ∧ cel v (ps.getD i (0, 0)) = (x, y)) ↔ pbP v ps (x, y) = true := by
    unfold pbP
    rw [any_get ps (0, 0)]
    simp only [decide_eq_true_eq]
  by_cases c1 : pbP v ps (x, y) = true
  · rw [if_pos (e1.2 c1), if_pos c1]
  · rw [if_neg (fun h => c1 (e1.1 h)), if_neg c1]
    by_cases c2 : pbL v l (x, y) = true
    · rw [if_pos ((pbL_iff v l _).1 c2), if_pos c2]
    · rw [if_neg (fun h => c2 ((pbL_iff v l _).2 h)), if_neg c2]
theorem oG_len (LL : List (List Int)) (h : Nat) : ∀ n, (oG LL h n).length = n
  | 0 => rfl
  | n + 1 => by unfold oG; rw [List.length_append, oG_len]; rfl
theorem oG_get (LL : List (List Int)) (h : Nat) : ∀ n r, r < n → (oG LL h n).getD r [] = bts (LL.getD (h - 1 - r) [])
  | 0, r, hr => by omega
  | n + 1, r, hr => by
      unfold oG
      rw [List.getD_eq_getElem?_getD]
      by_cases e : r = n
      · subst e
        rw [List.getElem?_append_right (by rw [oG_len]; omega), oG_len, Nat.sub_self]
        rfl
      · rw [List.getElem?_append_left (by rw [oG_len]; omega), ← List.getD_eq_getElem?_getD]
        exact oG_get LL h n r (by omega)
end F
end Go.Proofs.Ytbdhppceihcbnaa
