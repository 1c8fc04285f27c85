/- Part of a claim: lemmas on the way to its theorem; each states its own conditions. -/
import Derived.Test.YthljcjighomgkaaFp
import Derived.Test.YthljcjighomgkaaSym22
import Derived.Test.YthljcjighomgkaaTerrP
namespace Go.Proofs.Ythljcjighomgkaa
open Sym Go.RowKit
noncomputable section
set_option maxRecDepth 100000
set_option maxHeartbeats 4000000

namespace F
def gOk : List Int → Bool
  | [] => true
  | h :: t => inb h 0 60000 && gOk t
def gridE (ax ay sz nx ny : Int) (l : List Int) : Int := if inb nx 1 32 && (inb ny 1 32 && (inb sz 1 1000000 && placed ax ay)) then (if (l.length : Int) = nx * ny then (if gOk l then 0 else 4) else 3) else 4
def tfar (x y u v : Int) : Int := TP.far x y u v
def gnd (ax ay sz nx ny : Int) (l : List Int) (px py : Int) : Int := TP.gnd ax ay sz nx ny l px py
def cellHit (ax ay sz px py r y x : Int) : Bool := decide (TP.far (TP.near px (ax + x * sz) sz) (TP.near py (ay + y * sz) sz) px py ≤ r * r)
def cellV (nx : Int) (l : List Int) (y x : Int) : Int := l.getD (y * nx + x).toNat 0
def hiV (ax ay sz nx ny : Int) (l : List Int) (px py r : Int) : Int := TP.fold2 (cellHit ax ay sz px py r) (cellV nx l) nx.toNat 0 ny.toNat 0 0
def ptHit (px py r x y : Int) : Bool := decide (TP.far x y px py ≤ r * r)
def topV (ax ay sz nx ny : Int) (l : List Int) (px py r : Int) : Int := TP.fold2 (ptHit px py r) (gnd ax ay sz nx ny l) (2 * r + 1).toNat (py - r) (2 * r + 1).toNat (px - r) 0
def htE (ax ay sz nx ny : Int) (l : List Int) (px py : Int) : Int := if gridE ax ay sz nx ny l = 0 then pt px py else gridE ax ay sz nx ny l
def hiE (ax ay sz nx ny : Int) (l : List Int) (px py r : Int) : Int := if gridE ax ay sz nx ny l = 0 then (if pt px py = 0 then (if inb r 0 4000000 then 0 else 4) else 4) else gridE ax ay sz nx ny l
end F

noncomputable def s_tout : Summ cod := fun args H => match H with
  | [] => match rd args with
    | some [[n], [lo], [hi]] => (.ret (.c (.bool (F.out n lo hi)), []))
    | _ => .fail
  | _ => .fail

theorem tout_tree (n lo hi : Int) : symF C_moves [] Try.f69.results.toList (List.length ([] : Heap cod)) 400 [.code (codeOf Try.f69)] ⟨argsS Try.f69 [.c (.int .i64 n), .c (.int .i64 lo), .c (.int .i64 hi)], []⟩ =
 cond (decide (n < lo)) (
 .ret (.fin (.c (.bool true)) [])) (
 .ret (.fin (.c (.bool (decide (hi < n)))) [])) := by kernel_rfl

theorem tout_sound : Sound Try.prog cod 69 s_tout := sound_flat (cfg := C_moves) L_moves_ok mixed Try.func69 rfl rfl _ 400 fun args H r news hg => by
  unfold s_tout at hg
  split at hg
  · split at hg
    · rename_i n lo hi hrd
      have hargs := rd_spec hrd
      simp only [List.map, wr1, ints, List.tail] at hargs
      subst hargs
      clear hrd
      rw [tout_tree]
      try simp only [T.gives, T.wp, Prod.mk.injEq] at hg
      obtain ⟨rfl, rfl⟩ := hg
      simp only [T.wp, T.wp_cond, Fin.fin.injEq, SV.c.injEq, Cell.bool.injEq, Cell.int.injEq, and_true, true_and, decide_eq_true_eq, F.out]
      (repeat' split) <;> simp_all <;> omega
    · exact hg.elim
  · exact hg.elim

noncomputable def L_tout : Sums cod := (69, .p s_tout) :: L_moves
noncomputable def C_tout : Cfg cod := mkC L_tout

theorem L_tout_ok : Snd Try.prog cod L_tout := .cons tout_sound L_moves_ok


theorem tdrop_at (l : List Int) {i : Int} (h0 : 0 ≤ i) (h1 : i < l.length) : l.drop i.toNat = l.getD i.toNat 0 :: l.drop (i + 1).toNat := by
  have h2 : i.toNat < l.length := by omega
  have h3 : (i + 1).toNat = i.toNat + 1 := by omega
  rw [h3, List.drop_eq_getElem_cons h2]
  simp [List.getD, List.getElem?_eq_getElem h2]
theorem gOk_mem : ∀ {l : List Int} {k : Nat}, F.gOk l = true → 0 ≤ l.getD k 0 ∧ l.getD k 0 ≤ 60000
  | [], k, _ => by simp
  | h :: t, 0, hh => by
    simp only [F.gOk, Bool.and_eq_true] at hh
    have := inb_true.1 hh.1
    simpa using this
  | h :: t, k + 1, hh => by
    simp only [F.gOk, Bool.and_eq_true] at hh
    have := gOk_mem (k := k) hh.2
    simpa using this
theorem gridE_zero {ax ay sz nx ny : Int} {l : List Int} (h : F.gridE ax ay sz nx ny l = 0) : (1 ≤ nx ∧ nx ≤ 32) ∧ (1 ≤ ny ∧ ny ≤ 32) ∧ (1 ≤ sz ∧ sz ≤ 1000000) ∧ (-1000000 ≤ ax ∧ ax ≤ 1000000) ∧ (-1000000 ≤ ay ∧ ay ≤ 1000000) ∧ (l.length : Int) = nx * ny ∧ F.gOk l = true := by
  unfold F.gridE at h
  split at h
  · rename_i hc
    simp only [Bool.and_eq_true, F.placed] at hc
    obtain ⟨c1, c2, c3, c4, c5⟩ := hc
    split at h
    · rename_i hl
      split at h
      · rename_i hg
        exact ⟨inb_true.1 c1, inb_true.1 c2, inb_true.1 c3, inb_true.1 c4, inb_true.1 c5, hl, hg⟩
      · omega
    · omega
  · omega
/-- A cell's number. -/
theorem cell_bd {nx ny x y : Int} (hx : 0 ≤ x ∧ x < nx) (hy : 0 ≤ y ∧ y < ny) : 0 ≤ y * nx + x ∧ y * nx + x < nx * ny := by
  have h1 : 0 ≤ y * nx := Int.mul_nonneg hy.1 (by omega)
  have h2 : (y + 1) * nx ≤ ny * nx := Int.mul_le_mul_of_nonneg_right (by omega) (by omega)
  rw [Int.add_mul, Int.one_mul] at h2
  rw [Int.mul_comm ny nx] at h2
  omega


def cuts_tcheck : Cuts := [(6, [36, 37, 38], 2)]

theorem tcheck_t0 (ax ay sz nx ny : Int) (l : List Int) (l_t : Bool) : symF C_tout cuts_tcheck Try.f41.results.toList 1 400 [.code (codeOf Try.f41)] ⟨argsS Try.f41 [.agg [.int .i64 ax, .int .i64 ay, .int .i64 sz, .int .i64 nx, .int .i64 ny, .slc 0 0 (List.length l) l_t]], ([.inp 0 l] : Heap cod)⟩ =
 cond (F.out nx 1 32) (
 .ret (.fin (.c (.int .i64 4)) [])) (
 cond (F.out ny 1 32) (
  .ret (.fin (.c (.int .i64 4)) [])) (
  cond (F.out sz 1 1000000) (
   .ret (.fin (.c (.int .i64 4)) [])) (
   cond (!decide (F.pt ax ay = 0)) (
    .ret (.fin (.c (.int .i64 4)) [])) (
    .need (i64ok (nx * ny)) (
    cond (!decide (Int.ofNat (List.length l) = nx * ny)) (
     .ret (.fin (.c (.int .i64 3)) [])) (
     .ret (.cut (cutAt Try.f41 6) ⟨tmG 6 [(36, .c (.slc 0 0 (List.length l) l_t)), (0, .c (.int .i64 (Int.ofNat (List.length l)))), (0, .c (.int .i64 0))], [.inp 0 l, .blk [.int .i64 ax, .int .i64 ay, .int .i64 sz, .int .i64 nx, .int .i64 ny, .slc 0 0 (List.length l) l_t] 70]⟩))))))) := by kernel_rfl


noncomputable def st_tcheck_6 (ax ay sz nx ny : Int) (l : List Int) (l_t : Bool) (i : Int) : St cod := ⟨tmG 6 [(36, .c (.slc 0 0 (List.length l) l_t)), (0, .c (.int .i64 (Int.ofNat (List.length l)))), (0, .c (.int .i64 i))], [.inp 0 l, .blk [.int .i64 ax, .int .i64 ay, .int .i64 sz, .int .i64 nx, .int .i64 ny, .slc 0 0 (List.length l) l_t] 70]⟩


theorem tcheck_t6 (ax ay sz nx ny : Int) (l : List Int) (l_t : Bool) (i : Int) : symF C_tout cuts_tcheck Try.f41.results.toList 1 400 (cutAt Try.f41 6) (st_tcheck_6 ax ay sz nx ny l l_t i) =
 cond (decide (i < Int.ofNat (List.length l))) (
 .need (((0 : Int) ≤ i ∧ i < Int.ofNat (List.length l))) (
 .need (0 + Int.toNat i < List.length l) (
 cond (F.out (List.getD l (0 + Int.toNat i) (cod 0).d) 0 60000) (
  .ret (.fin (.c (.int .i64 4)) [])) (
  .need (i64ok (i + 1)) (
  .ret (.cut (cutAt Try.f41 6) ⟨tmG 6 [(36, .c (.slc 0 0 (List.length l) l_t)), (0, .c (.int .i64 (Int.ofNat (List.length l)))), (0, .c (.int .i64 (i + 1)))], [.inp 0 l, .blk [.int .i64 ax, .int .i64 ay, .int .i64 sz, .int .i64 nx, .int .i64 ny, .slc 0 0 (List.length l) l_t] 70]⟩)))))) (
 .ret (.fin (.c (.int .i64 0)) [])) := by kernel_rfl



theorem tcheck_loop (ax ay sz nx ny : Int) (l : List Int) (l_t : Bool) (hl : l.length ≤ 1024) (b0 : Base) (hb0 : b0.n = 1) (R : SV) : ∀ (m : Nat) (i : Int), 0 ≤ i → i + m = l.length → R = .c (.int .i64 (if F.gOk (l.drop i.toNat) then 0 else 4)) →
    Sym.Runs Try.prog b0 (cutAt Try.f41 6) (st_tcheck_6 ax ay sz nx ny l l_t i) (Sym.Ends Try.prog Try.f41 1 R []) := by
  intro m
  induction m with
  | zero =>
    intro i h0 hm hR
    refine Runs.go (cfg := C_tout) L_tout_ok mixed cuts_tcheck 400 hb0 (tcheck_t6 ax ay sz nx ny l l_t i) ?_
    have h1 : ¬ i < (l.length : Int) := by omega
    rw [List.drop_of_length_le (by omega)] at hR
    simp only [T.wp, T.wp_cond, Aft, Int.ofNat_eq_natCast, decide_eq_true_eq, and_true, true_and, Nat.zero_add, Bool.not_eq_true', decide_eq_false_iff_not, h1, if_false, hR]
    rfl
  | succ m ih =>
    intro i h0 hm hR
    have h1 : i < (l.length : Int) := by omega
    have h2 : i.toNat < l.length := by omega
    have hd : (cod 0).d = (0 : Int) := rfl
    have h3 : i64ok (i + 1) := by unfold i64ok; omega
    refine Runs.go (cfg := C_tout) L_tout_ok mixed cuts_tcheck 400 hb0 (tcheck_t6 ax ay sz nx ny l l_t i) ?_
    rw [tdrop_at l h0 h1] at hR
    simp only [F.gOk] at hR
    simp only [T.wp, T.wp_cond, Aft, Int.ofNat_eq_natCast, decide_eq_true_eq, and_true, true_and, Nat.zero_add, Bool.not_eq_true', decide_eq_false_iff_not, h0, h1, h2, h3, hd, if_true, out_inb]
    cases hv : F.inb (l.getD i.toNat 0) 0 60000
    · simp only [hv, Bool.false_and, Bool.false_eq_true, if_false] at hR
      simp [hR]
    · simp only [hv, Bool.true_and] at hR
      exact ih (i + 1) (by omega) (by omega) hR
theorem tcheck_run (ax ay sz nx ny : Int) (l : List Int) (l_t : Bool) (b0 : Base) (hb : b0.n = 1)  : Sym.Runs Try.prog b0 [.code (codeOf Try.f41)] ⟨argsS Try.f41 [.agg [.int .i64 ax, .int .i64 ay, .int .i64 sz, .int .i64 nx, .int .i64 ny, .slc 0 0 (List.length l) l_t]], ([.inp 0 l] : Heap cod)⟩ (Sym.Ends Try.prog Try.f41 1 (.c (.int .i64 (F.gridE ax ay sz nx ny l))) []) := by
  refine Runs.go (cfg := C_tout) L_tout_ok mixed cuts_tcheck 400 hb (tcheck_t0 ax ay sz nx ny l l_t) ?_
  unfold F.gridE
  by_cases a1 : F.inb nx 1 32 = true
  · by_cases a2 : F.inb ny 1 32 = true
    · by_cases a3 : F.inb sz 1 1000000 = true
      · by_cases a4 : F.placed ax ay = true
        · have b1 := inb_true.1 a1
          have b2 := inb_true.1 a2
          have b5 := mul_bd (x := nx) (y := ny) (a := 32) (b := 32) (by omega) (by omega)
          have b6 : i64ok (nx * ny) := by unfold i64ok; omega
          have b7 : F.pt ax ay = 0 := by
            unfold F.placed at a4
            unfold F.pt
            rw [if_pos a4]
          simp only [T.wp, T.wp_cond, Aft, Int.ofNat_eq_natCast, decide_eq_true_eq, and_true, true_and, Nat.zero_add, Bool.not_eq_true', decide_eq_false_iff_not, out_inb, a1, a2, a3, a4, b6, b7, Bool.not_true, Bool.false_eq_true, not_true_eq_false, if_false, if_true, Bool.and_self]
          by_cases a5 : (l.length : Int) = nx * ny
          · rw [if_neg (fun h => h a5), if_pos a5]
            exact tcheck_loop ax ay sz nx ny l l_t (by omega) b0 hb _ l.length 0 (by omega) (by omega) rfl
          · simp [a5]
        · have b7 : ¬ F.pt ax ay = 0 := by
            unfold F.placed at a4
            unfold F.pt
            rw [if_neg a4]
            omega
          simp [T.wp, T.wp_cond, Aft, out_inb, a1, a2, a3, a4, b7]
      · simp [T.wp, T.wp_cond, Aft, out_inb, a1, a2, a3]
    · simp [T.wp, T.wp_cond, Aft, out_inb, a1, a2]
  · simp [T.wp, T.wp_cond, Aft, out_inb, a1]



noncomputable def s_tcheck : Summ cod := fun args H => match args, H with
  | [.agg [.int .i64 ax, .int .i64 ay, .int .i64 sz, .int .i64 nx, .int .i64 ny, .slc 0 l_i l_n l_t]], [o0] => (match o0.asInp 0 with | some l => .need ((l_i = 0 ∧ l_n = List.length l)) (.ret (.c (.int .i64 (F.gridE ax ay sz nx ny l)), [])) | none => .fail)
  | _, _ => .fail


theorem tcheck_sound : Sound Try.prog cod 41 s_tcheck := sound_runs (cfg := C_tout) L_tout_ok mixed Try.func41 rfl rfl _ fun args H r news hg b0 hb => by
  unfold s_tcheck at hg
  split at hg
  · skip
    split at hg
    · rename_i l hx0
      cases asInp_spec hx0
      simp only [T.gives, T.wp, Prod.mk.injEq] at hg
      obtain ⟨⟨rfl, rfl⟩, rfl, rfl⟩ := hg
      exact tcheck_run _ _ _ _ _ _ _ b0 hb 
    · exact hg.elim
  · exact hg.elim

noncomputable def L_tcheck : Sums cod := (41, .p s_tcheck) :: L_tout
noncomputable def C_tcheck : Cfg cod := mkC L_tcheck

theorem L_tcheck_ok : Snd Try.prog cod L_tcheck := .cons tcheck_sound L_tout_ok



def cuts_gridE : Cuts := [(6, [37, 38, 39], 2)]

theorem gridE_t0 (ax ay sz nx ny : Int) (l : List Int) (l_t : Bool) : symF C_tcheck cuts_gridE Try.f40.results.toList 1 400 [.code (codeOf Try.f40)] ⟨argsS Try.f40 [.agg [.int .i64 ax, .int .i64 ay, .int .i64 sz, .int .i64 nx, .int .i64 ny, .slc 0 0 (List.length l) l_t]], ([.inp 0 l] : Heap cod)⟩ =
 cond (!F.inb nx 1 32) (
 .ret (.fin (.c (.int .i64 4)) [])) (
 cond (!F.inb ny 1 32) (
  .ret (.fin (.c (.int .i64 4)) [])) (
  cond (!F.inb sz 1 1000000) (
   .ret (.fin (.c (.int .i64 4)) [])) (
   cond (!F.placed ax ay) (
    .ret (.fin (.c (.int .i64 4)) [])) (
    .need (i64ok (nx * ny)) (
    cond (!decide (Int.ofNat (List.length l) = nx * ny)) (
     .ret (.fin (.c (.int .i64 3)) [])) (
     .ret (.cut (cutAt Try.f40 6) ⟨tmG 7 [(37, .c (.slc 0 0 (List.length l) l_t)), (0, .c (.int .i64 (Int.ofNat (List.length l)))), (0, .c (.int .i64 0))], [.inp 0 l, .blk [.int .i64 ax, .int .i64 ay, .int .i64 sz, .int .i64 nx, .int .i64 ny, .slc 0 0 (List.length l) l_t] 70]⟩))))))) := by kernel_rfl


noncomputable def st_gridE_6 (ax ay sz nx ny : Int) (l : List Int) (l_t : Bool) (i : Int) : St cod := ⟨tmG 7 [(37, .c (.slc 0 0 (List.length l) l_t)), (0, .c (.int .i64 (Int.ofNat (List.length l)))), (0, .c (.int .i64 i))], [.inp 0 l, .blk [.int .i64 ax, .int .i64 ay, .int .i64 sz, .int .i64 nx, .int .i64 ny, .slc 0 0 (List.length l) l_t] 70]⟩


theorem gridE_t6 (ax ay sz nx ny : Int) (l : List Int) (l_t : Bool) (i : Int) : symF C_tcheck cuts_gridE Try.f40.results.toList 1 400 (cutAt Try.f40 6) (st_gridE_6 ax ay sz nx ny l l_t i) =
 cond (decide (i < Int.ofNat (List.length l))) (
 .need (((0 : Int) ≤ i ∧ i < Int.ofNat (List.length l))) (
 .need (0 + Int.toNat i < List.length l) (
 cond (!F.inb (List.getD l (0 + Int.toNat i) (cod 0).d) 0 60000) (
  .ret (.fin (.c (.int .i64 4)) [])) (
  .need (i64ok (i + 1)) (
  .ret (.cut (cutAt Try.f40 6) ⟨tmG 7 [(37, .c (.slc 0 0 (List.length l) l_t)), (0, .c (.int .i64 (Int.ofNat (List.length l)))), (0, .c (.int .i64 (i + 1)))], [.inp 0 l, .blk [.int .i64 ax, .int .i64 ay, .int .i64 sz, .int .i64 nx, .int .i64 ny, .slc 0 0 (List.length l) l_t] 70]⟩)))))) (
 .ret (.fin (.c (.int .i64 0)) [])) := by kernel_rfl



theorem gridE_loop (ax ay sz nx ny : Int) (l : List Int) (l_t : Bool) (hl : l.length ≤ 1024) (b0 : Base) (hb0 : b0.n = 1) (R : SV) : ∀ (m : Nat) (i : Int), 0 ≤ i → i + m = l.length → R = .c (.int .i64 (if F.gOk (l.drop i.toNat) then 0 else 4)) →
    Sym.Runs Try.prog b0 (cutAt Try.f40 6) (st_gridE_6 ax ay sz nx ny l l_t i) (Sym.Ends Try.prog Try.f40 1 R []) := by
  intro m
  induction m with
  | zero =>
    intro i h0 hm hR
    refine Runs.go (cfg := C_tcheck) L_tcheck_ok mixed cuts_gridE 400 hb0 (gridE_t6 ax ay sz nx ny l l_t i) ?_
    have h1 : ¬ i < (l.length : Int) := by omega
    rw [List.drop_of_length_le (by omega)] at hR
    simp only [T.wp, T.wp_cond, Aft, Int.ofNat_eq_natCast, decide_eq_true_eq, and_true, true_and, Nat.zero_add, Bool.not_eq_true', decide_eq_false_iff_not, h1, if_false, hR]
    rfl
  | succ m ih =>
    intro i h0 hm hR
    have h1 : i < (l.length : Int) := by omega
    have h2 : i.toNat < l.length := by omega
    have hd : (cod 0).d = (0 : Int) := rfl
    have h3 : i64ok (i + 1) := by unfold i64ok; omega
    refine Runs.go (cfg := C_tcheck) L_tcheck_ok mixed cuts_gridE 400 hb0 (gridE_t6 ax ay sz nx ny l l_t i) ?_
    rw [tdrop_at l h0 h1] at hR
    simp only [F.gOk] at hR
    simp only [T.wp, T.wp_cond, Aft, Int.ofNat_eq_natCast, decide_eq_true_eq, and_true, true_and, Nat.zero_add, Bool.not_eq_true', decide_eq_false_iff_not, h0, h1, h2, h3, hd, if_true, out_inb]
    cases hv : F.inb (l.getD i.toNat 0) 0 60000
    · simp only [hv, Bool.false_and, Bool.false_eq_true, if_false] at hR
      simp [hR]
    · simp only [hv, Bool.true_and] at hR
      exact ih (i + 1) (by omega) (by omega) hR
theorem gridE_run (ax ay sz nx ny : Int) (l : List Int) (l_t : Bool) (b0 : Base) (hb : b0.n = 1)  : Sym.Runs Try.prog b0 [.code (codeOf Try.f40)] ⟨argsS Try.f40 [.agg [.int .i64 ax, .int .i64 ay, .int .i64 sz, .int .i64 nx, .int .i64 ny, .slc 0 0 (List.length l) l_t]], ([.inp 0 l] : Heap cod)⟩ (Sym.Ends Try.prog Try.f40 1 (.c (.int .i64 (F.gridE ax ay sz nx ny l))) []) := by
  refine Runs.go (cfg := C_tcheck) L_tcheck_ok mixed cuts_gridE 400 hb (gridE_t0 ax ay sz nx ny l l_t) ?_
  unfold F.gridE
  by_cases a1 : F.inb nx 1 32 = true
  · by_cases a2 : F.inb ny 1 32 = true
    · by_cases a3 : F.inb sz 1 1000000 = true
      · by_cases a4 : F.placed ax ay = true
        · have b1 := inb_true.1 a1
          have b2 := inb_true.1 a2
          have b5 := mul_bd (x := nx) (y := ny) (a := 32) (b := 32) (by omega) (by omega)
          have b6 : i64ok (nx * ny) := by unfold i64ok; omega
          have b7 : F.pt ax ay = 0 := by
            unfold F.placed at a4
            unfold F.pt
            rw [if_pos a4]
          simp only [T.wp, T.wp_cond, Aft, Int.ofNat_eq_natCast, decide_eq_true_eq, and_true, true_and, Nat.zero_add, Bool.not_eq_true', decide_eq_false_iff_not, out_inb, a1, a2, a3, a4, b6, b7, Bool.not_true, Bool.false_eq_true, not_true_eq_false, if_false, if_true, Bool.and_self]
          by_cases a5 : (l.length : Int) = nx * ny
          · rw [if_neg (fun h => h a5), if_pos a5]
            exact gridE_loop ax ay sz nx ny l l_t (by omega) b0 hb _ l.length 0 (by omega) (by omega) rfl
          · simp [a5]
        · have b7 : ¬ F.pt ax ay = 0 := by
            unfold F.placed at a4
            unfold F.pt
            rw [if_neg a4]
            omega
          simp [T.wp, T.wp_cond, Aft, out_inb, a1, a2, a3, a4, b7]
      · simp [T.wp, T.wp_cond, Aft, out_inb, a1, a2, a3]
    · simp [T.wp, T.wp_cond, Aft, out_inb, a1, a2]
  · simp [T.wp, T.wp_cond, Aft, out_inb, a1]



noncomputable def s_gridE : Summ cod := fun args H => match args, H with
  | [.agg [.int .i64 ax, .int .i64 ay, .int .i64 sz, .int .i64 nx, .int .i64 ny, .slc 0 l_i l_n l_t]], [o0] => (match o0.asInp 0 with | some l => .need ((l_i = 0 ∧ l_n = List.length l)) (.ret (.c (.int .i64 (F.gridE ax ay sz nx ny l)), [])) | none => .fail)
  | _, _ => .fail


theorem gridE_sound : Sound Try.prog cod 40 s_gridE := sound_runs (cfg := C_tcheck) L_tcheck_ok mixed Try.func40 rfl rfl _ fun args H r news hg b0 hb => by
  unfold s_gridE at hg
  split at hg
  · skip
    split at hg
    · rename_i l hx0
      cases asInp_spec hx0
      simp only [T.gives, T.wp, Prod.mk.injEq] at hg
      obtain ⟨⟨rfl, rfl⟩, rfl, rfl⟩ := hg
      exact gridE_run _ _ _ _ _ _ _ b0 hb 
    · exact hg.elim
  · exact hg.elim

noncomputable def L_gridE : Sums cod := (40, .p s_gridE) :: L_tcheck
noncomputable def C_gridE : Cfg cod := mkC L_gridE

theorem L_gridE_ok : Snd Try.prog cod L_gridE := .cons gridE_sound L_tcheck_ok



theorem pt_zeroT {x y : Int} (h : F.pt x y = 0) : (-1000000 ≤ x ∧ x ≤ 1000000) ∧ (-1000000 ≤ y ∧ y ≤ 1000000) := by
  rw [pt0] at h
  exact ⟨inb_true.1 h.1, inb_true.1 h.2⟩
def InR (ax ay sz nx ny px py : Int) : Prop := (0 ≤ (px - ax) / sz ∧ (px - ax) / sz < nx) ∧ 0 ≤ (py - ay) / sz ∧ (py - ay) / sz < ny
theorem gnd_out {ax ay sz nx ny px py : Int} {l : List Int} (h : ¬ InR ax ay sz nx ny px py) : F.gnd ax ay sz nx ny l px py = 0 := by
  unfold F.gnd TP.gnd
  exact if_neg h
theorem gnd_in {ax ay sz nx ny px py : Int} {l : List Int} (h : InR ax ay sz nx ny px py) : F.gnd ax ay sz nx ny l px py = l.getD ((py - ay) / sz * nx + (px - ax) / sz).toNat 0 := by
  unfold F.gnd TP.gnd
  exact if_pos h
theorem out_false {n lo hi : Int} (h : F.out n lo hi = false) : lo ≤ n ∧ n ≤ hi := by
  simp only [F.out, Bool.or_eq_false_iff, decide_eq_false_iff_not] at h
  omega
theorem out_true {n lo hi : Int} (h : F.out n lo hi = true) : n < lo ∨ hi < n := by
  simp only [F.out, Bool.or_eq_true, decide_eq_true_eq] at h
  exact h


def cuts_height : Cuts := []

theorem height_t0 (ax ay sz nx ny : Int) (l : List Int) (l_t : Bool) (px py : Int) : symF C_gridE cuts_height Try.f39.results.toList 1 400 [.code (codeOf Try.f39)] ⟨argsS Try.f39 [.agg [.int .i64 ax, .int .i64 ay, .int .i64 sz, .int .i64 nx, .int .i64 ny, .slc 0 0 (List.length l) l_t], .agg [.int .i64 px, .int .i64 py]], ([.inp 0 l] : Heap cod)⟩ =
.need ((0 = 0 ∧ List.length l = List.length l)) (
 cond (!decide (F.gridE ax ay sz nx ny l = 0)) (
 .ret (.fin (.tup [.c (.int .i64 0), .c (.int .i64 (F.gridE ax ay sz nx ny l))]) [])) (
 cond (!decide (F.pt px py = 0)) (
  .ret (.fin (.tup [.c (.int .i64 0), .c (.int .i64 (F.pt px py))]) [])) (
  .need (i64ok (px - ax)) (
  .need (((0 : Int) < sz ∧ i64ok (px - ax))) (
  .need (i64ok (py - ay)) (
  .need (((0 : Int) < sz ∧ i64ok (py - ay))) (
  .need (i64ok (nx - 1)) (
  cond (F.out ((px - ax) / sz) 0 (nx - 1)) (
   .ret (.fin (.tup [.c (.int .i64 0), .c (.int .i64 0)]) [])) (
   .need (i64ok (ny - 1)) (
   cond (F.out ((py - ay) / sz) 0 (ny - 1)) (
    .ret (.fin (.tup [.c (.int .i64 0), .c (.int .i64 0)]) [])) (
    .need (i64ok ((py - ay) / sz * nx)) (
    .need (i64ok ((py - ay) / sz * nx + (px - ax) / sz)) (
    .need (((0 : Int) ≤ (py - ay) / sz * nx + (px - ax) / sz ∧ (py - ay) / sz * nx + (px - ax) / sz < Int.ofNat (List.length l))) (
    .need (0 + Int.toNat ((py - ay) / sz * nx + (px - ax) / sz) < List.length l) (
    .ret (.fin (.tup [.c (.int .i64 (List.getD l (0 + Int.toNat ((py - ay) / sz * nx + (px - ax) / sz)) (cod 0).d)), .c (.int .i64 0)]) [])))))))))))))))) := by kernel_rfl



theorem height_run (ax ay sz nx ny : Int) (l : List Int) (l_t : Bool) (px py : Int) (b0 : Base) (hb : b0.n = 1)  : Sym.Runs Try.prog b0 [.code (codeOf Try.f39)] ⟨argsS Try.f39 [.agg [.int .i64 ax, .int .i64 ay, .int .i64 sz, .int .i64 nx, .int .i64 ny, .slc 0 0 (List.length l) l_t], .agg [.int .i64 px, .int .i64 py]], ([.inp 0 l] : Heap cod)⟩ (Sym.Ends Try.prog Try.f39 1 (.tup [.c (.int .i64 (F.z (F.htE ax ay sz nx ny l px py) (F.gnd ax ay sz nx ny l px py))), .c (.int .i64 (F.htE ax ay sz nx ny l px py))]) []) := by
  refine Runs.go (cfg := C_gridE) L_gridE_ok mixed cuts_height 400 hb (height_t0 ax ay sz nx ny l l_t px py) ?_
  unfold F.htE
  by_cases e : F.gridE ax ay sz nx ny l = 0
  · obtain ⟨g1, g2, g3, g4, g5, g6, g7⟩ := gridE_zero e
    by_cases q : F.pt px py = 0
    · obtain ⟨q1, q2⟩ := pt_zeroT q
      have hd : (cod 0).d = (0 : Int) := rfl
      have u1 : 0 < sz := by omega
      have u2 : i64ok (px - ax) := by unfold i64ok; omega
      have u3 : i64ok (py - ay) := by unfold i64ok; omega
      have u4 : i64ok (nx - 1) := by unfold i64ok; omega
      have u5 : i64ok (ny - 1) := by unfold i64ok; omega
      simp only [T.wp, T.wp_cond, Aft, Int.ofNat_eq_natCast, decide_eq_true_eq, and_true, true_and, Nat.zero_add, Bool.not_eq_true', decide_eq_false_iff_not, e, q, hd, u1, u2, u3, u4, u5, not_true_eq_false, if_false, if_true, F.z]
      cases hx : F.out ((px - ax) / sz) 0 (nx - 1)
      · cases hy : F.out ((py - ay) / sz) 0 (ny - 1)
        · have c1 := out_false hx
          have c2 := out_false hy
          rw [gnd_in ⟨⟨by omega, by omega⟩, by omega, by omega⟩]
          generalize (px - ax) / sz = X at *
          generalize (py - ay) / sz = Y at *
          obtain ⟨d1, d2⟩ := cell_bd (nx := nx) (ny := ny) (x := X) (y := Y) (by omega) (by omega)
          have d3 := mul_bd (x := Y) (y := nx) (a := 32) (b := 32) (by omega) (by omega)
          have v1 : i64ok (Y * nx) := by unfold i64ok; omega
          have v2 : i64ok (Y * nx + X) := by unfold i64ok; omega
          have v3 : Y * nx + X < (l.length : Int) := by omega
          have v4 : (Y * nx + X).toNat < l.length := by omega
          simp [v1, v2, v3, v4, d1]
        · have c2 := out_true hy
          rw [gnd_out (by unfold InR; omega)]
          simp
      · have c1 := out_true hx
        rw [gnd_out (by unfold InR; omega)]
        simp
    · simp [T.wp, T.wp_cond, Aft, e, q, F.z]
  · simp [T.wp, T.wp_cond, Aft, e, F.z]



noncomputable def s_height : Summ cod := fun args H => match args, H with
  | [.agg [.int .i64 ax, .int .i64 ay, .int .i64 sz, .int .i64 nx, .int .i64 ny, .slc 0 l_i l_n l_t], .agg [.int .i64 px, .int .i64 py]], [o0] => (match o0.asInp 0 with | some l => .need ((l_i = 0 ∧ l_n = List.length l)) (.ret (.tup [.c (.int .i64 (F.z (F.htE ax ay sz nx ny l px py) (F.gnd ax ay sz nx ny l px py))), .c (.int .i64 (F.htE ax ay sz nx ny l px py))], [])) | none => .fail)
  | _, _ => .fail


theorem height_sound : Sound Try.prog cod 39 s_height := sound_runs (cfg := C_gridE) L_gridE_ok mixed Try.func39 rfl rfl _ fun args H r news hg b0 hb => by
  unfold s_height at hg
  split at hg
  · skip
    split at hg
    · rename_i l hx0
      cases asInp_spec hx0
      simp only [T.gives, T.wp, Prod.mk.injEq] at hg
      obtain ⟨⟨rfl, rfl⟩, rfl, rfl⟩ := hg
      exact height_run _ _ _ _ _ _ _ _ _ b0 hb 
    · exact hg.elim
  · exact hg.elim

noncomputable def L_height : Sums cod := (39, .p s_height) :: L_gridE
noncomputable def C_height : Cfg cod := mkC L_height

theorem L_height_ok : Snd Try.prog cod L_height := .cons height_sound L_gridE_ok



def cuts_ground : Cuts := [(2, [2, 3, 8, 9], 3), (5, [2, 5, 3, 8, 9, 13, 14], 3)]

theorem ground_t0 (ax ay sz nx ny : Int) (l : List Int) (l_t : Bool) (px py : Int) : symF C_height cuts_ground Try.f42.results.toList 1 400 [.code (codeOf Try.f42)] ⟨argsS Try.f42 [.agg [.int .i64 ax, .int .i64 ay, .int .i64 sz, .int .i64 nx, .int .i64 ny, .slc 0 0 (List.length l) l_t], .agg [.int .i64 px, .int .i64 py]], ([.inp 0 l] : Heap cod)⟩ =
.ret (.cut (cutAt Try.f42 2) ⟨tmG 51 [(2, .c (.ptr 1 0 0)), (0, .c (.ptr 2 0 0)), (4, .c (.int .i64 ny)), (0, .c (.int .i64 0))], [.inp 0 l, .blk [.int .i64 ax, .int .i64 ay, .int .i64 sz, .int .i64 nx, .int .i64 ny, .slc 0 0 (List.length l) l_t] 70, .blk [.int .i64 px, .int .i64 py] 23]⟩) := by kernel_rfl


noncomputable def st_ground_2 (ax ay sz nx ny : Int) (l : List Int) (l_t : Bool) (px py : Int) (y : Int) : St cod := ⟨tmG 51 [(2, .c (.ptr 1 0 0)), (0, .c (.ptr 2 0 0)), (4, .c (.int .i64 ny)), (0, .c (.int .i64 y))], [.inp 0 l, .blk [.int .i64 ax, .int .i64 ay, .int .i64 sz, .int .i64 nx, .int .i64 ny, .slc 0 0 (List.length l) l_t] 70, .blk [.int .i64 px, .int .i64 py] 23]⟩


theorem ground_t2 (ax ay sz nx ny : Int) (l : List Int) (l_t : Bool) (px py : Int) (y : Int) : symF C_height cuts_ground Try.f42.results.toList 1 400 (cutAt Try.f42 2) (st_ground_2 ax ay sz nx ny l l_t px py y) =
 cond (decide (y < ny)) (
 .ret (.cut (cutAt Try.f42 5) ⟨tmG 46 [(2, .c (.ptr 1 0 0)), (0, .c (.ptr 2 0 0)), (1, .c (.int .i64 y)), (2, .c (.int .i64 ny)), (0, .c (.int .i64 y)), (3, .c (.int .i64 nx)), (0, .c (.int .i64 0))], [.inp 0 l, .blk [.int .i64 ax, .int .i64 ay, .int .i64 sz, .int .i64 nx, .int .i64 ny, .slc 0 0 (List.length l) l_t] 70, .blk [.int .i64 px, .int .i64 py] 23]⟩)) (
 .ret (.fin (.c (.int .i64 0)) [])) := by kernel_rfl


noncomputable def st_ground_5 (ax ay sz nx ny : Int) (l : List Int) (l_t : Bool) (px py : Int) (y x : Int) : St cod := ⟨tmG 46 [(2, .c (.ptr 1 0 0)), (0, .c (.ptr 2 0 0)), (1, .c (.int .i64 y)), (2, .c (.int .i64 ny)), (0, .c (.int .i64 y)), (3, .c (.int .i64 nx)), (0, .c (.int .i64 x))], [.inp 0 l, .blk [.int .i64 ax, .int .i64 ay, .int .i64 sz, .int .i64 nx, .int .i64 ny, .slc 0 0 (List.length l) l_t] 70, .blk [.int .i64 px, .int .i64 py] 23]⟩


theorem ground_t5 (ax ay sz nx ny : Int) (l : List Int) (l_t : Bool) (px py : Int) (y x : Int) : symF C_height cuts_ground Try.f42.results.toList 1 400 (cutAt Try.f42 5) (st_ground_5 ax ay sz nx ny l l_t px py y x) =
 cond (decide (x < nx)) (
 .need (i64ok (px - ax)) (
 .need (i64ok (x * sz)) (
 .need (i64ok (px - ax - x * sz)) (
 .need (i64ok (sz - 1)) (
 cond (F.inb (px - ax - x * sz) 0 (sz - 1)) (
  .need (i64ok (py - ay)) (
  .need (i64ok (y * sz)) (
  .need (i64ok (py - ay - y * sz)) (
  .need (i64ok (sz - 1)) (
  cond (F.inb (py - ay - y * sz) 0 (sz - 1)) (
   .need (i64ok (y * nx)) (
   .need (i64ok (y * nx + x)) (
   .need (((0 : Int) ≤ y * nx + x ∧ y * nx + x < Int.ofNat (List.length l))) (
   .need (0 + Int.toNat (y * nx + x) < List.length l) (
   .ret (.fin (.c (.int .i64 (List.getD l (0 + Int.toNat (y * nx + x)) (cod 0).d))) [])))))) (
   .need (i64ok (x + 1)) (
   .ret (.cut (cutAt Try.f42 5) ⟨tmG 46 [(2, .c (.ptr 1 0 0)), (0, .c (.ptr 2 0 0)), (1, .c (.int .i64 y)), (2, .c (.int .i64 ny)), (0, .c (.int .i64 y)), (3, .c (.int .i64 nx)), (0, .c (.int .i64 (x + 1)))], [.inp 0 l, .blk [.int .i64 ax, .int .i64 ay, .int .i64 sz, .int .i64 nx, .int .i64 ny, .slc 0 0 (List.length l) l_t] 70, .blk [.int .i64 px, .int .i64 py] 23]⟩)))))))) (
  .need (i64ok (x + 1)) (
  .ret (.cut (cutAt Try.f42 5) ⟨tmG 46 [(2, .c (.ptr 1 0 0)), (0, .c (.ptr 2 0 0)), (1, .c (.int .i64 y)), (2, .c (.int .i64 ny)), (0, .c (.int .i64 y)), (3, .c (.int .i64 nx)), (0, .c (.int .i64 (x + 1)))], [.inp 0 l, .blk [.int .i64 ax, .int .i64 ay, .int .i64 sz, .int .i64 nx, .int .i64 ny, .slc 0 0 (List.length l) l_t] 70, .blk [.int .i64 px, .int .i64 py] 23]⟩)))))))) (
 .need (i64ok (y + 1)) (
 .ret (.cut (cutAt Try.f42 2) ⟨tmG 51 [(2, .c (.ptr 1 0 0)), (0, .c (.ptr 2 0 0)), (4, .c (.int .i64 ny)), (0, .c (.int .i64 (y + 1)))], [.inp 0 l, .blk [.int .i64 ax, .int .i64 ay, .int .i64 sz, .int .i64 nx, .int .i64 ny, .slc 0 0 (List.length l) l_t] 70, .blk [.int .i64 px, .int .i64 py] 23]⟩))) := by kernel_rfl



theorem ground_in (ax ay sz nx ny : Int) (l : List Int) (l_t : Bool) (px py : Int) (e : F.gridE ax ay sz nx ny l = 0) (q1 : -2000000 ≤ px ∧ px ≤ 2000000) (q2 : -2000000 ≤ py ∧ py ≤ 2000000) (b0 : Base) (hb0 : b0.n = 1) (y : Int) (hy : 0 ≤ y ∧ y < ny)
    (hout : (InR ax ay sz nx ny px py → y + 1 ≤ (py - ay) / sz) → Sym.Runs Try.prog b0 (cutAt Try.f42 2) (st_ground_2 ax ay sz nx ny l l_t px py (y + 1)) (Sym.Ends Try.prog Try.f42 1 (.c (.int .i64 (F.gnd ax ay sz nx ny l px py))) [])) :
    ∀ (m : Nat) (x : Int), 0 ≤ x → x + m = nx → (InR ax ay sz nx ny px py → y < (py - ay) / sz ∨ (y = (py - ay) / sz ∧ x ≤ (px - ax) / sz)) →
    Sym.Runs Try.prog b0 (cutAt Try.f42 5) (st_ground_5 ax ay sz nx ny l l_t px py y x) (Sym.Ends Try.prog Try.f42 1 (.c (.int .i64 (F.gnd ax ay sz nx ny l px py))) []) := by
  obtain ⟨g1, g2, g3, g4, g5, g6, g7⟩ := gridE_zero e
  intro m
  induction m with
  | zero =>
    intro x h0 hm hi
    have nx' := hout (fun h => by
      have h1 := hi h
      obtain ⟨⟨_, h2⟩, _⟩ := h
      omega)
    refine Runs.go (cfg := C_height) L_height_ok mixed cuts_ground 400 hb0 (ground_t5 ax ay sz nx ny l l_t px py y x) ?_
    have h1 : ¬ x < nx := by omega
    simp only [T.wp, T.wp_cond, Aft, Int.ofNat_eq_natCast, decide_eq_true_eq, and_true, true_and, Nat.zero_add, Bool.not_eq_true', decide_eq_false_iff_not, h1, if_false]
    exact ⟨by unfold i64ok; omega, nx'⟩
  | succ m ih =>
    intro x h0 hm hi
    have h1 : x < nx := by omega
    have hd : (cod 0).d = (0 : Int) := rfl
    have k1 := mul_bd (x := x) (y := sz) (a := 32) (b := 1000000) (by omega) (by omega)
    have k2 := mul_bd (x := y) (y := sz) (a := 32) (b := 1000000) (by omega) (by omega)
    have k3 := mul_bd (x := y) (y := nx) (a := 32) (b := 32) (by omega) (by omega)
    have u1 : i64ok (px - ax) := by unfold i64ok; omega
    have u2 : i64ok (py - ay) := by unfold i64ok; omega
    have u3 : i64ok (x * sz) := by unfold i64ok; omega
    have u4 : i64ok (y * sz) := by unfold i64ok; omega
    have u5 : i64ok (px - ax - x * sz) := by unfold i64ok; omega
    have u6 : i64ok (py - ay - y * sz) := by unfold i64ok; omega
    have u7 : i64ok (sz - 1) := by unfold i64ok; omega
    have u8 : i64ok (x + 1) := by unfold i64ok; omega
    have u9 : i64ok (y * nx) := by unfold i64ok; omega
    have u10 : i64ok (y * nx + x) := by unfold i64ok; omega
    obtain ⟨d1, d2⟩ := cell_bd (nx := nx) (ny := ny) (x := x) (y := y) (by omega) (by omega)
    have u11 : y * nx + x < (l.length : Int) := by omega
    have u12 : (y * nx + x).toNat < l.length := by omega
    have cx := TP.cell_iff (p := px) (a := ax) (s := sz) (k := x) (by omega)
    have cy := TP.cell_iff (p := py) (a := ay) (s := sz) (k := y) (by omega)
    have nx' := ih (x + 1) (by omega) (by omega)
    refine Runs.go (cfg := C_height) L_height_ok mixed cuts_ground 400 hb0 (ground_t5 ax ay sz nx ny l l_t px py y x) ?_
    simp only [T.wp, T.wp_cond, Aft, Int.ofNat_eq_natCast, decide_eq_true_eq, and_true, true_and, Nat.zero_add, Bool.not_eq_true', decide_eq_false_iff_not, h1, hd, if_true, u1, u2, u3, u4, u5, u6, u7, u8, u9, u10, u11, u12, d1]
    cases e1 : F.inb (px - ax - x * sz) 0 (sz - 1)
    · have n1 : ¬ (px - ax) / sz = x := fun h => by
        have := inb_true.2 (cx.2 h)
        rw [e1] at this
        cases this
      simp only [Bool.false_eq_true, if_false]
      exact nx' (fun h => by have := hi h; omega)
    · have n1 := cx.1 (inb_true.1 e1)
      cases e2 : F.inb (py - ay - y * sz) 0 (sz - 1)
      · have n2 : ¬ (py - ay) / sz = y := fun h => by
          have := inb_true.2 (cy.2 h)
          rw [e2] at this
          cases this
        simp only [Bool.false_eq_true, if_false, if_true]
        exact nx' (fun h => by have := hi h; omega)
      · have n2 := cy.1 (inb_true.1 e2)
        simp only [if_true]
        rw [gnd_in ⟨⟨by omega, by omega⟩, by omega, by omega⟩, n1, n2]
theorem ground_out (ax ay sz nx ny : Int) (l : List Int) (l_t : Bool) (px py : Int) (e : F.gridE ax ay sz nx ny l = 0) (q1 : -2000000 ≤ px ∧ px ≤ 2000000) (q2 : -2000000 ≤ py ∧ py ≤ 2000000) (b0 : Base) (hb0 : b0.n = 1) : ∀ (m : Nat) (y : Int), 0 ≤ y → y + m = ny → (InR ax ay sz nx ny px py → y ≤ (py - ay) / sz) →
    Sym.Runs Try.prog b0 (cutAt Try.f42 2) (st_ground_2 ax ay sz nx ny l l_t px py y) (Sym.Ends Try.prog Try.f42 1 (.c (.int .i64 (F.gnd ax ay sz nx ny l px py))) []) := by
  obtain ⟨g1, _⟩ := gridE_zero e
  intro m
  induction m with
  | zero =>
    intro y h0 hm hi
    refine Runs.go (cfg := C_height) L_height_ok mixed cuts_ground 400 hb0 (ground_t2 ax ay sz nx ny l l_t px py y) ?_
    have h1 : ¬ y < ny := by omega
    simp only [T.wp, T.wp_cond, Aft, Int.ofNat_eq_natCast, decide_eq_true_eq, and_true, true_and, Nat.zero_add, Bool.not_eq_true', decide_eq_false_iff_not, h1, if_false]
    rw [gnd_out (fun h => by
      have := hi h
      obtain ⟨_, _, h3⟩ := h
      omega)]
  | succ m ih =>
    intro y h0 hm hi
    refine Runs.go (cfg := C_height) L_height_ok mixed cuts_ground 400 hb0 (ground_t2 ax ay sz nx ny l l_t px py y) ?_
    have h1 : y < ny := by omega
    simp only [T.wp, T.wp_cond, Aft, Int.ofNat_eq_natCast, decide_eq_true_eq, and_true, true_and, Nat.zero_add, Bool.not_eq_true', decide_eq_false_iff_not, h1, if_true]
    exact ground_in ax ay sz nx ny l l_t px py e q1 q2 b0 hb0 y ⟨h0, h1⟩ (ih (y + 1) (by omega) (by omega)) nx.toNat 0 (by omega) (by omega) (fun h => by
      have h2 := hi h
      obtain ⟨⟨h3, _⟩, _⟩ := h
      omega)
theorem ground_run (ax ay sz nx ny : Int) (l : List Int) (l_t : Bool) (px py : Int) (b0 : Base) (hb : b0.n = 1) (h0 : F.gridE ax ay sz nx ny l = 0 ∧ (-2000000 ≤ px ∧ px ≤ 2000000) ∧ (-2000000 ≤ py ∧ py ≤ 2000000)) : Sym.Runs Try.prog b0 [.code (codeOf Try.f42)] ⟨argsS Try.f42 [.agg [.int .i64 ax, .int .i64 ay, .int .i64 sz, .int .i64 nx, .int .i64 ny, .slc 0 0 (List.length l) l_t], .agg [.int .i64 px, .int .i64 py]], ([.inp 0 l] : Heap cod)⟩ (Sym.Ends Try.prog Try.f42 1 (.c (.int .i64 (F.gnd ax ay sz nx ny l px py))) []) := by
  obtain ⟨e, q1, q2⟩ := h0
  obtain ⟨_, g2, _⟩ := gridE_zero e
  refine Runs.go (cfg := C_height) L_height_ok mixed cuts_ground 400 hb (ground_t0 ax ay sz nx ny l l_t px py) ?_
  simp only [T.wp, T.wp_cond, Aft, Int.ofNat_eq_natCast, decide_eq_true_eq, and_true, true_and, Nat.zero_add, Bool.not_eq_true', decide_eq_false_iff_not]
  exact ground_out ax ay sz nx ny l l_t px py e q1 q2 b0 hb ny.toNat 0 (by omega) (by omega) (fun h => h.2.1)



noncomputable def s_ground : Summ cod := fun args H => match args, H with
  | [.agg [.int .i64 ax, .int .i64 ay, .int .i64 sz, .int .i64 nx, .int .i64 ny, .slc 0 l_i l_n l_t], .agg [.int .i64 px, .int .i64 py]], [o0] => (match o0.asInp 0 with | some l => .need ((l_i = 0 ∧ l_n = List.length l) ∧ (F.gridE ax ay sz nx ny l = 0 ∧ (-2000000 ≤ px ∧ px ≤ 2000000) ∧ (-2000000 ≤ py ∧ py ≤ 2000000))) (.ret (.c (.int .i64 (F.gnd ax ay sz nx ny l px py)), [])) | none => .fail)
  | _, _ => .fail


theorem ground_sound : Sound Try.prog cod 42 s_ground := sound_runs (cfg := C_height) L_height_ok mixed Try.func42 rfl rfl _ fun args H r news hg b0 hb => by
  unfold s_ground at hg
  split at hg
  · skip
    split at hg
    · rename_i l hx0
      cases asInp_spec hx0
      simp only [T.gives, T.wp, Prod.mk.injEq] at hg
      obtain ⟨⟨⟨rfl, rfl⟩, q1⟩, rfl, rfl⟩ := hg
      exact ground_run _ _ _ _ _ _ _ _ _ b0 hb (by assumption)
    · exact hg.elim
  · exact hg.elim

noncomputable def L_ground : Sums cod := (42, .p s_ground) :: L_height
noncomputable def C_ground : Cfg cod := mkC L_ground

theorem L_ground_ok : Snd Try.prog cod L_ground := .cons ground_sound L_height_ok


end
end Go.Proofs.Ythljcjighomgkaa
