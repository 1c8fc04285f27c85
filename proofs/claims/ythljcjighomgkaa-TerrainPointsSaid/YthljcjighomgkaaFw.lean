/- Part of a claim: lemmas on the way to its theorem; each states its own conditions. -/
import Derived.Test.YthljcjighomgkaaFv
namespace Go.Proofs.Ythljcjighomgkaa
open Sym Go.RowKit
noncomputable section
set_option maxRecDepth 100000
set_option maxHeartbeats 4000000




def cuts_highest : Cuts := [(3, [3, 2, 4, 13, 14, 7], 3), (6, [3, 8, 2, 4, 13, 14, 18, 19, 7], 3)]

theorem highest_t0 (ax ay sz nx ny : Int) (l : List Int) (l_t : Bool) (px py : Int) (r : Int) : symF C_ground cuts_highest Try.f70.results.toList 1 400 [.code (codeOf Try.f70)] ⟨argsS Try.f70 [.agg [.int .i64 ax, .int .i64 ay, .int .i64 sz, .int .i64 nx, .int .i64 ny, .slc 0 0 (List.length l) l_t], .agg [.int .i64 px, .int .i64 py], .c (.int .i64 r)], ([.inp 0 l] : Heap cod)⟩ =
.ret (.cut (cutAt Try.f70 3) ⟨tmG 69 [(2, .c (.int .i64 r)), (0, .c (.ptr 1 0 0)), (0, .c (.ptr 2 0 0)), (2, .c (.int .i64 0)), (5, .c (.int .i64 ny)), (0, .c (.int .i64 0))], [.inp 0 l, .blk [.int .i64 ax, .int .i64 ay, .int .i64 sz, .int .i64 nx, .int .i64 ny, .slc 0 0 (List.length l) l_t] 70, .blk [.int .i64 px, .int .i64 py] 23]⟩) := by kernel_rfl


noncomputable def st_highest_3 (ax ay sz nx ny : Int) (l : List Int) (l_t : Bool) (px py : Int) (r : Int) (y b : Int) : St cod := ⟨tmG 69 [(2, .c (.int .i64 r)), (0, .c (.ptr 1 0 0)), (0, .c (.ptr 2 0 0)), (2, .c (.int .i64 b)), (5, .c (.int .i64 ny)), (0, .c (.int .i64 y))], [.inp 0 l, .blk [.int .i64 ax, .int .i64 ay, .int .i64 sz, .int .i64 nx, .int .i64 ny, .slc 0 0 (List.length l) l_t] 70, .blk [.int .i64 px, .int .i64 py] 23]⟩


theorem highest_t3 (ax ay sz nx ny : Int) (l : List Int) (l_t : Bool) (px py : Int) (r : Int) (y b : Int) : symF C_ground cuts_highest Try.f70.results.toList 1 400 (cutAt Try.f70 3) (st_highest_3 ax ay sz nx ny l l_t px py r y b) =
 cond (decide (y < ny)) (
 .ret (.cut (cutAt Try.f70 6) ⟨tmG 64 [(2, .c (.int .i64 r)), (0, .c (.ptr 1 0 0)), (0, .c (.ptr 2 0 0)), (2, .c (.int .i64 b)), (0, .c (.int .i64 y)), (4, .c (.int .i64 ny)), (0, .c (.int .i64 y)), (3, .c (.int .i64 nx)), (0, .c (.int .i64 0))], [.inp 0 l, .blk [.int .i64 ax, .int .i64 ay, .int .i64 sz, .int .i64 nx, .int .i64 ny, .slc 0 0 (List.length l) l_t] 70, .blk [.int .i64 px, .int .i64 py] 23]⟩)) (
 .ret (.fin (.c (.int .i64 b)) [])) := by kernel_rfl


noncomputable def st_highest_6 (ax ay sz nx ny : Int) (l : List Int) (l_t : Bool) (px py : Int) (r : Int) (y x b : Int) : St cod := ⟨tmG 64 [(2, .c (.int .i64 r)), (0, .c (.ptr 1 0 0)), (0, .c (.ptr 2 0 0)), (2, .c (.int .i64 b)), (0, .c (.int .i64 y)), (4, .c (.int .i64 ny)), (0, .c (.int .i64 y)), (3, .c (.int .i64 nx)), (0, .c (.int .i64 x))], [.inp 0 l, .blk [.int .i64 ax, .int .i64 ay, .int .i64 sz, .int .i64 nx, .int .i64 ny, .slc 0 0 (List.length l) l_t] 70, .blk [.int .i64 px, .int .i64 py] 23]⟩


theorem highest_t6 (ax ay sz nx ny : Int) (l : List Int) (l_t : Bool) (px py : Int) (r : Int) (y x b : Int) : symF C_ground cuts_highest Try.f70.results.toList 1 400 (cutAt Try.f70 6) (st_highest_6 ax ay sz nx ny l l_t px py r y x b) =
 cond (decide (x < nx)) (
 .need (i64ok (x * sz)) (
 .need (i64ok (ax + x * sz)) (
 .need (i64ok (y * sz)) (
 .need (i64ok (ay + y * sz)) (
 .need (i64ok (ax + x * sz + sz)) (
 .need (i64ok (ax + x * sz + sz - 1)) (
 .need (ax + x * sz ≤ ax + x * sz + sz - 1) (
 .need (i64ok (ay + y * sz + sz)) (
 .need (i64ok (ay + y * sz + sz - 1)) (
 .need (ay + y * sz ≤ ay + y * sz + sz - 1) (
 .need ((F.b9 (F.clamp px (ax + x * sz) (ax + x * sz + sz - 1)) ∧ (F.b9 (F.clamp py (ay + y * sz) (ay + y * sz + sz - 1)) ∧ (F.b9 px ∧ F.b9 py)))) (
 .need (i64ok (r * r)) (
 cond (decide   (F.far (F.clamp px (ax + x * sz) (ax + x * sz + sz - 1)) (F.clamp py (ay + y * sz) (ay + y * sz + sz - 1)) px py ≤     r * r)) (
  .need (i64ok (y * nx)) (
  .need (i64ok (y * nx + x)) (
  .need (((0 : Int) ≤ y * nx + x ∧ y * nx + x < Int.ofNat (List.length l))) (
  .need (0 + Int.toNat (y * nx + x) < List.length l) (
  .need (i64ok (x + 1)) (
  .ret (.cut (cutAt Try.f70 6) ⟨tmG 64 [(2, .c (.int .i64 r)), (0, .c (.ptr 1 0 0)), (0, .c (.ptr 2 0 0)), (2, .c (.int .i64 (max b (List.getD l (0 + Int.toNat (y * nx + x)) (cod 0).d)))), (0, .c (.int .i64 y)), (4, .c (.int .i64 ny)), (0, .c (.int .i64 y)), (3, .c (.int .i64 nx)), (0, .c (.int .i64 (x + 1)))], [.inp 0 l, .blk [.int .i64 ax, .int .i64 ay, .int .i64 sz, .int .i64 nx, .int .i64 ny, .slc 0 0 (List.length l) l_t] 70, .blk [.int .i64 px, .int .i64 py] 23]⟩))))))) (
  .need (i64ok (x + 1)) (
  .ret (.cut (cutAt Try.f70 6) ⟨tmG 64 [(2, .c (.int .i64 r)), (0, .c (.ptr 1 0 0)), (0, .c (.ptr 2 0 0)), (2, .c (.int .i64 b)), (0, .c (.int .i64 y)), (4, .c (.int .i64 ny)), (0, .c (.int .i64 y)), (3, .c (.int .i64 nx)), (0, .c (.int .i64 (x + 1)))], [.inp 0 l, .blk [.int .i64 ax, .int .i64 ay, .int .i64 sz, .int .i64 nx, .int .i64 ny, .slc 0 0 (List.length l) l_t] 70, .blk [.int .i64 px, .int .i64 py] 23]⟩)))))))))))))))) (
 .need (i64ok (y + 1)) (
 .ret (.cut (cutAt Try.f70 3) ⟨tmG 69 [(2, .c (.int .i64 r)), (0, .c (.ptr 1 0 0)), (0, .c (.ptr 2 0 0)), (2, .c (.int .i64 b)), (5, .c (.int .i64 ny)), (0, .c (.int .i64 (y + 1)))], [.inp 0 l, .blk [.int .i64 ax, .int .i64 ay, .int .i64 sz, .int .i64 nx, .int .i64 ny, .slc 0 0 (List.length l) l_t] 70, .blk [.int .i64 px, .int .i64 py] 23]⟩))) := by kernel_rfl



theorem highest_in (ax ay sz nx ny : Int) (l : List Int) (l_t : Bool) (px py r : Int) (e : F.gridE ax ay sz nx ny l = 0) (q1 : -1000000 ≤ px ∧ px ≤ 1000000) (q2 : -1000000 ≤ py ∧ py ≤ 1000000) (q3 : 0 ≤ r ∧ r ≤ 4000000) (b0 : Base) (hb0 : b0.n = 1) (R y : Int) (hy : 0 ≤ y ∧ y < ny)
    (hout : ∀ b, R = TP.fold2 (F.cellHit ax ay sz px py r) (F.cellV nx l) nx.toNat 0 (ny - (y + 1)).toNat (y + 1) b → Sym.Runs Try.prog b0 (cutAt Try.f70 3) (st_highest_3 ax ay sz nx ny l l_t px py r (y + 1) b) (Sym.Ends Try.prog Try.f70 1 (.c (.int .i64 R)) [])) :
    ∀ (m : Nat) (x b : Int), 0 ≤ x → x + m = nx → R = TP.fold2 (F.cellHit ax ay sz px py r) (F.cellV nx l) nx.toNat 0 (ny - (y + 1)).toNat (y + 1) (TP.foldX (F.cellHit ax ay sz px py r y) (F.cellV nx l y) m x b) →
    Sym.Runs Try.prog b0 (cutAt Try.f70 6) (st_highest_6 ax ay sz nx ny l l_t px py r y x b) (Sym.Ends Try.prog Try.f70 1 (.c (.int .i64 R)) []) := by
  obtain ⟨g1, g2, g3, g4, g5, g6, g7⟩ := gridE_zero e
  intro m
  induction m with
  | zero =>
    intro x b h0 hm hR
    have nx' := hout b hR
    refine Runs.go (cfg := C_ground) L_ground_ok mixed cuts_highest 400 hb0 (highest_t6 ax ay sz nx ny l l_t px py r y x b) ?_
    have h1 : ¬ x < nx := by omega
    simp only [T.wp, T.wp_cond, Aft, Int.ofNat_eq_natCast, decide_eq_true_eq, and_true, true_and, Nat.zero_add, Bool.not_eq_true', decide_eq_false_iff_not, h1, if_false]
    exact ⟨by unfold i64ok; omega, nx'⟩
  | succ m ih =>
    intro x b h0 hm hR
    have h1 : x < nx := by omega
    have hd : (cod 0).d = (0 : Int) := rfl
    have k1 := mul_bd (x := x) (y := sz) (a := 32) (b := 1000000) (by omega) (by omega)
    have k2 := mul_bd (x := y) (y := sz) (a := 32) (b := 1000000) (by omega) (by omega)
    have k3 := mul_bd (x := y) (y := nx) (a := 32) (b := 32) (by omega) (by omega)
    have k4 := mul_bd (x := r) (y := r) (a := 4000000) (b := 4000000) (by omega) (by omega)
    have c1 : ax + x * sz ≤ TP.near px (ax + x * sz) sz ∧ TP.near px (ax + x * sz) sz ≤ ax + x * sz + sz - 1 := by
      unfold TP.near TP.clamp
      (repeat' split) <;> omega
    have c2 : ay + y * sz ≤ TP.near py (ay + y * sz) sz ∧ TP.near py (ay + y * sz) sz ≤ ay + y * sz + sz - 1 := by
      unfold TP.near TP.clamp
      (repeat' split) <;> omega
    have e1 : F.clamp px (ax + x * sz) (ax + x * sz + sz - 1) = TP.near px (ax + x * sz) sz := rfl
    have e2 : F.clamp py (ay + y * sz) (ay + y * sz + sz - 1) = TP.near py (ay + y * sz) sz := rfl
    have e3 : F.far (TP.near px (ax + x * sz) sz) (TP.near py (ay + y * sz) sz) px py = TP.far (TP.near px (ax + x * sz) sz) (TP.near py (ay + y * sz) sz) px py := rfl
    have u1 : i64ok (x * sz) := by unfold i64ok; omega
    have u2 : i64ok (y * sz) := by unfold i64ok; omega
    have u3 : i64ok (ax + x * sz) := by unfold i64ok; omega
    have u4 : i64ok (ay + y * sz) := by unfold i64ok; omega
    have u5 : i64ok (ax + x * sz + sz) := by unfold i64ok; omega
    have u6 : i64ok (ay + y * sz + sz) := by unfold i64ok; omega
    have u7 : i64ok (ax + x * sz + sz - 1) := by unfold i64ok; omega
    have u8 : i64ok (ay + y * sz + sz - 1) := by unfold i64ok; omega
    have u9 : i64ok (x + 1) := by unfold i64ok; omega
    have u10 : i64ok (y * nx) := by unfold i64ok; omega
    have u11 : i64ok (y * nx + x) := by unfold i64ok; omega
    have u12 : i64ok (r * r) := by unfold i64ok; omega
    have u13 : ax + x * sz ≤ ax + x * sz + sz - 1 := by omega
    have u14 : ay + y * sz ≤ ay + y * sz + sz - 1 := by omega
    obtain ⟨d1, d2⟩ := cell_bd (nx := nx) (ny := ny) (x := x) (y := y) (by omega) (by omega)
    have u15 : y * nx + x < (l.length : Int) := by omega
    have u16 : (y * nx + x).toNat < l.length := by omega
    have w1 : F.b9 (TP.near px (ax + x * sz) sz) := by unfold F.b9; omega
    have w2 : F.b9 (TP.near py (ay + y * sz) sz) := by unfold F.b9; omega
    have w3 : F.b9 px := by unfold F.b9; omega
    have w4 : F.b9 py := by unfold F.b9; omega
    rw [TP.foldX] at hR
    refine Runs.go (cfg := C_ground) L_ground_ok mixed cuts_highest 400 hb0 (highest_t6 ax ay sz nx ny l l_t px py r y x b) ?_
    simp only [T.wp, T.wp_cond, Aft, Int.ofNat_eq_natCast, decide_eq_true_eq, and_true, true_and, Nat.zero_add, Bool.not_eq_true', decide_eq_false_iff_not, h1, hd, if_true, e1, e2, e3, u1, u2, u3, u4, u5, u6, u7, u8, u9, u10, u11, u12, u13, u14, u15, u16, w1, w2, w3, w4, d1]
    by_cases hh : TP.far (TP.near px (ax + x * sz) sz) (TP.near py (ay + y * sz) sz) px py ≤ r * r
    · rw [if_pos (show F.cellHit ax ay sz px py r y x = true from decide_eq_true hh)] at hR
      rw [if_pos hh]
      exact ih (x + 1) (max b (F.cellV nx l y x)) (by omega) (by omega) hR
    · rw [if_neg (show ¬ F.cellHit ax ay sz px py r y x = true from fun h => hh (of_decide_eq_true h))] at hR
      rw [if_neg hh]
      exact ih (x + 1) b (by omega) (by omega) hR
theorem highest_out (ax ay sz nx ny : Int) (l : List Int) (l_t : Bool) (px py r : Int) (e : F.gridE ax ay sz nx ny l = 0) (q1 : -1000000 ≤ px ∧ px ≤ 1000000) (q2 : -1000000 ≤ py ∧ py ≤ 1000000) (q3 : 0 ≤ r ∧ r ≤ 4000000) (b0 : Base) (hb0 : b0.n = 1) (R : Int) : ∀ (m : Nat) (y b : Int), 0 ≤ y → y + m = ny → R = TP.fold2 (F.cellHit ax ay sz px py r) (F.cellV nx l) nx.toNat 0 m y b →
    Sym.Runs Try.prog b0 (cutAt Try.f70 3) (st_highest_3 ax ay sz nx ny l l_t px py r y b) (Sym.Ends Try.prog Try.f70 1 (.c (.int .i64 R)) []) := by
  obtain ⟨g1, _⟩ := gridE_zero e
  intro m
  induction m with
  | zero =>
    intro y b h0 hm hR
    refine Runs.go (cfg := C_ground) L_ground_ok mixed cuts_highest 400 hb0 (highest_t3 ax ay sz nx ny l l_t px py r y b) ?_
    have h1 : ¬ y < ny := by omega
    simp only [T.wp, T.wp_cond, Aft, Int.ofNat_eq_natCast, decide_eq_true_eq, and_true, true_and, Nat.zero_add, Bool.not_eq_true', decide_eq_false_iff_not, h1, if_false]
    rw [hR]
    simp [TP.fold2]
  | succ m ih =>
    intro y b h0 hm hR
    refine Runs.go (cfg := C_ground) L_ground_ok mixed cuts_highest 400 hb0 (highest_t3 ax ay sz nx ny l l_t px py r y b) ?_
    have h1 : y < ny := by omega
    have hm' : (ny - (y + 1)).toNat = m := by omega
    simp only [T.wp, T.wp_cond, Aft, Int.ofNat_eq_natCast, decide_eq_true_eq, and_true, true_and, Nat.zero_add, Bool.not_eq_true', decide_eq_false_iff_not, h1, if_true]
    rw [TP.fold2] at hR
    exact highest_in ax ay sz nx ny l l_t px py r e q1 q2 q3 b0 hb0 R y ⟨h0, h1⟩ (fun b' hb' => ih (y + 1) b' (by omega) (by omega) (by rw [hm'] at hb'; exact hb')) nx.toNat 0 b (by omega) (by omega) (by rw [hm']; exact hR)
theorem highest_run (ax ay sz nx ny : Int) (l : List Int) (l_t : Bool) (px py : Int) (r : Int) (b0 : Base) (hb : b0.n = 1) (h0 : F.gridE ax ay sz nx ny l = 0) (h1 : -1000000 ≤ px ∧ px ≤ 1000000) (h2 : -1000000 ≤ py ∧ py ≤ 1000000) (h3 : 0 ≤ r ∧ r ≤ 4000000) : Sym.Runs Try.prog b0 [.code (codeOf Try.f70)] ⟨argsS Try.f70 [.agg [.int .i64 ax, .int .i64 ay, .int .i64 sz, .int .i64 nx, .int .i64 ny, .slc 0 0 (List.length l) l_t], .agg [.int .i64 px, .int .i64 py], .c (.int .i64 r)], ([.inp 0 l] : Heap cod)⟩ (Sym.Ends Try.prog Try.f70 1 (.c (.int .i64 (F.hiV ax ay sz nx ny l px py r))) []) := by
  obtain ⟨_, g2, _⟩ := gridE_zero h0
  refine Runs.go (cfg := C_ground) L_ground_ok mixed cuts_highest 400 hb (highest_t0 ax ay sz nx ny l l_t px py r) ?_
  simp only [T.wp, T.wp_cond, Aft, Int.ofNat_eq_natCast, decide_eq_true_eq, and_true, true_and, Nat.zero_add, Bool.not_eq_true', decide_eq_false_iff_not]
  exact highest_out ax ay sz nx ny l l_t px py r h0 h1 h2 h3 b0 hb _ ny.toNat 0 0 (by omega) (by omega) rfl



noncomputable def s_highest : Summ cod := fun args H => match args, H with
  | [.agg [.int .i64 ax, .int .i64 ay, .int .i64 sz, .int .i64 nx, .int .i64 ny, .slc 0 l_i l_n l_t], .agg [.int .i64 px, .int .i64 py], .c (.int .i64 r)], [o0] => (match o0.asInp 0 with | some l => .need ((l_i = 0 ∧ l_n = List.length l) ∧ (F.gridE ax ay sz nx ny l = 0) ∧ (-1000000 ≤ px ∧ px ≤ 1000000) ∧ (-1000000 ≤ py ∧ py ≤ 1000000) ∧ (0 ≤ r ∧ r ≤ 4000000)) (.ret (.c (.int .i64 (F.hiV ax ay sz nx ny l px py r)), [])) | none => .fail)
  | _, _ => .fail


theorem highest_sound : Sound Try.prog cod 70 s_highest := sound_runs (cfg := C_ground) L_ground_ok mixed Try.func70 rfl rfl _ fun args H r news hg b0 hb => by
  unfold s_highest at hg
  split at hg
  · skip
    split at hg
    · rename_i l hx0
      cases asInp_spec hx0
      simp only [T.gives, T.wp, Prod.mk.injEq] at hg
      obtain ⟨⟨⟨rfl, rfl⟩, q1, q2, q3, q4⟩, rfl, rfl⟩ := hg
      exact highest_run _ _ _ _ _ _ _ _ _ _ b0 hb (by assumption) (by assumption) (by assumption) (by assumption)
    · exact hg.elim
  · exact hg.elim

noncomputable def L_highest : Sums cod := (70, .p s_highest) :: L_ground
noncomputable def C_highest : Cfg cod := mkC L_highest

theorem L_highest_ok : Snd Try.prog cod L_highest := .cons highest_sound L_ground_ok



def cuts_hgst : Cuts := []

theorem hgst_t0 (ax ay sz nx ny : Int) (l : List Int) (l_t : Bool) (px py : Int) (r : Int) : symF C_highest cuts_hgst Try.f38.results.toList 1 400 [.code (codeOf Try.f38)] ⟨argsS Try.f38 [.agg [.int .i64 ax, .int .i64 ay, .int .i64 sz, .int .i64 nx, .int .i64 ny, .slc 0 0 (List.length l) l_t], .agg [.int .i64 px, .int .i64 py], .c (.int .i64 r)], ([.inp 0 l] : Heap cod)⟩ =
.need ((0 = 0 ∧ List.length l = List.length l)) (
 cond (!decide (F.gridE ax ay sz nx ny l = 0)) (
 .ret (.fin (.tup [.c (.int .i64 0), .c (.int .i64 (F.gridE ax ay sz nx ny l))]) [])) (
 cond (!decide (F.pt px py = 0)) (
  .ret (.fin (.tup [.c (.int .i64 0), .c (.int .i64 4)]) [])) (
  cond (F.out r 0 4000000) (
   .ret (.fin (.tup [.c (.int .i64 0), .c (.int .i64 4)]) [])) (
   .need (((0 = 0 ∧ List.length l = List.length l) ∧ (F.gridE ax ay sz nx ny l = 0 ∧ (((-1000000 : Int) ≤ px ∧ px ≤ 1000000) ∧ (((-1000000 : Int) ≤ py ∧ py ≤ 1000000) ∧ ((0 : Int) ≤ r ∧ r ≤ 4000000)))))) (
   .ret (.fin (.tup [.c (.int .i64 (F.hiV ax ay sz nx ny l px py r)), .c (.int .i64 0)]) [])))))) := by kernel_rfl



theorem hgst_run (ax ay sz nx ny : Int) (l : List Int) (l_t : Bool) (px py : Int) (r : Int) (b0 : Base) (hb : b0.n = 1)  : Sym.Runs Try.prog b0 [.code (codeOf Try.f38)] ⟨argsS Try.f38 [.agg [.int .i64 ax, .int .i64 ay, .int .i64 sz, .int .i64 nx, .int .i64 ny, .slc 0 0 (List.length l) l_t], .agg [.int .i64 px, .int .i64 py], .c (.int .i64 r)], ([.inp 0 l] : Heap cod)⟩ (Sym.Ends Try.prog Try.f38 1 (.tup [.c (.int .i64 (F.z (F.hiE ax ay sz nx ny l px py r) (F.hiV ax ay sz nx ny l px py r))), .c (.int .i64 (F.hiE ax ay sz nx ny l px py r))]) []) := by
  refine Runs.go (cfg := C_highest) L_highest_ok mixed cuts_hgst 400 hb (hgst_t0 ax ay sz nx ny l l_t px py r) ?_
  unfold F.hiE
  by_cases e : F.gridE ax ay sz nx ny l = 0
  · by_cases q : F.pt px py = 0
    · obtain ⟨q1, q2⟩ := pt_zeroT q
      cases hr : F.inb r 0 4000000
      · have h1 : F.out r 0 4000000 = true := by rw [out_inb, hr]; rfl
        simp [T.wp, T.wp_cond, Aft, e, q, h1, F.z]
      · have h1 : F.out r 0 4000000 = false := by rw [out_inb, hr]; rfl
        have h2 := inb_true.1 hr
        simp [T.wp, T.wp_cond, Aft, e, q, h1, F.z, q1, q2, h2]
    · simp [T.wp, T.wp_cond, Aft, e, q, F.z]
  · simp [T.wp, T.wp_cond, Aft, e, F.z]



noncomputable def s_hgst : Summ cod := fun args H => match args, H with
  | [.agg [.int .i64 ax, .int .i64 ay, .int .i64 sz, .int .i64 nx, .int .i64 ny, .slc 0 l_i l_n l_t], .agg [.int .i64 px, .int .i64 py], .c (.int .i64 r)], [o0] => (match o0.asInp 0 with | some l => .need ((l_i = 0 ∧ l_n = List.length l)) (.ret (.tup [.c (.int .i64 (F.z (F.hiE ax ay sz nx ny l px py r) (F.hiV ax ay sz nx ny l px py r))), .c (.int .i64 (F.hiE ax ay sz nx ny l px py r))], [])) | none => .fail)
  | _, _ => .fail


theorem hgst_sound : Sound Try.prog cod 38 s_hgst := sound_runs (cfg := C_highest) L_highest_ok mixed Try.func38 rfl rfl _ fun args H r news hg b0 hb => by
  unfold s_hgst at hg
  split at hg
  · skip
    split at hg
    · rename_i l hx0
      cases asInp_spec hx0
      simp only [T.gives, T.wp, Prod.mk.injEq] at hg
      obtain ⟨⟨rfl, rfl⟩, rfl, rfl⟩ := hg
      exact hgst_run _ _ _ _ _ _ _ _ _ _ b0 hb 
    · exact hg.elim
  · exact hg.elim

noncomputable def L_hgst : Sums cod := (38, .p s_hgst) :: L_highest
noncomputable def C_hgst : Cfg cod := mkC L_hgst

theorem L_hgst_ok : Snd Try.prog cod L_hgst := .cons hgst_sound L_highest_ok



def cuts_ttop : Cuts := [(3, [2, 4, 3, 8, 7], 3), (6, [2, 4, 3, 8, 9, 7], 3)]

theorem ttop_t0 (ax ay sz nx ny : Int) (l : List Int) (l_t : Bool) (px py : Int) (r : Int) : symF C_hgst cuts_ttop Try.f43.results.toList 1 400 [.code (codeOf Try.f43)] ⟨argsS Try.f43 [.agg [.int .i64 ax, .int .i64 ay, .int .i64 sz, .int .i64 nx, .int .i64 ny, .slc 0 0 (List.length l) l_t], .agg [.int .i64 px, .int .i64 py], .c (.int .i64 r)], ([.inp 0 l] : Heap cod)⟩ =
.need (i64ok (px - r)) (
.ret (.cut (cutAt Try.f43 3) ⟨tmG 47 [(2, .c (.int .i64 r)), (0, .c (.ptr 1 0 0)), (0, .c (.ptr 2 0 0)), (2, .c (.int .i64 0)), (0, .c (.int .i64 (px - r)))], [.inp 0 l, .blk [.int .i64 ax, .int .i64 ay, .int .i64 sz, .int .i64 nx, .int .i64 ny, .slc 0 0 (List.length l) l_t] 70, .blk [.int .i64 px, .int .i64 py] 23]⟩)) := by kernel_rfl


noncomputable def st_ttop_3 (ax ay sz nx ny : Int) (l : List Int) (l_t : Bool) (px py : Int) (r : Int) (u b : Int) : St cod := ⟨tmG 47 [(2, .c (.int .i64 r)), (0, .c (.ptr 1 0 0)), (0, .c (.ptr 2 0 0)), (2, .c (.int .i64 b)), (0, .c (.int .i64 u))], [.inp 0 l, .blk [.int .i64 ax, .int .i64 ay, .int .i64 sz, .int .i64 nx, .int .i64 ny, .slc 0 0 (List.length l) l_t] 70, .blk [.int .i64 px, .int .i64 py] 23]⟩


theorem ttop_t3 (ax ay sz nx ny : Int) (l : List Int) (l_t : Bool) (px py : Int) (r : Int) (u b : Int) : symF C_hgst cuts_ttop Try.f43.results.toList 1 400 (cutAt Try.f43 3) (st_ttop_3 ax ay sz nx ny l l_t px py r u b) =
.need (i64ok (px + r)) (
 cond (decide (u ≤ px + r)) (
 .need (i64ok (py - r)) (
 .ret (.cut (cutAt Try.f43 6) ⟨tmG 46 [(2, .c (.int .i64 r)), (0, .c (.ptr 1 0 0)), (0, .c (.ptr 2 0 0)), (2, .c (.int .i64 b)), (0, .c (.int .i64 u)), (0, .c (.int .i64 (py - r)))], [.inp 0 l, .blk [.int .i64 ax, .int .i64 ay, .int .i64 sz, .int .i64 nx, .int .i64 ny, .slc 0 0 (List.length l) l_t] 70, .blk [.int .i64 px, .int .i64 py] 23]⟩))) (
 .ret (.fin (.c (.int .i64 b)) []))) := by kernel_rfl


noncomputable def st_ttop_6 (ax ay sz nx ny : Int) (l : List Int) (l_t : Bool) (px py : Int) (r : Int) (u v b : Int) : St cod := ⟨tmG 46 [(2, .c (.int .i64 r)), (0, .c (.ptr 1 0 0)), (0, .c (.ptr 2 0 0)), (2, .c (.int .i64 b)), (0, .c (.int .i64 u)), (0, .c (.int .i64 v))], [.inp 0 l, .blk [.int .i64 ax, .int .i64 ay, .int .i64 sz, .int .i64 nx, .int .i64 ny, .slc 0 0 (List.length l) l_t] 70, .blk [.int .i64 px, .int .i64 py] 23]⟩


theorem ttop_t6 (ax ay sz nx ny : Int) (l : List Int) (l_t : Bool) (px py : Int) (r : Int) (u v b : Int) : symF C_hgst cuts_ttop Try.f43.results.toList 1 400 (cutAt Try.f43 6) (st_ttop_6 ax ay sz nx ny l l_t px py r u v b) =
.need (i64ok (py + r)) (
 cond (decide (v ≤ py + r)) (
 .need (((0 = 0 ∧ List.length l = List.length l) ∧ (F.gridE ax ay sz nx ny l = 0 ∧ (((-2000000 : Int) ≤ u ∧ u ≤ 2000000) ∧ ((-2000000 : Int) ≤ v ∧ v ≤ 2000000))))) (
 .need ((F.b9 u ∧ (F.b9 v ∧ (F.b9 px ∧ F.b9 py)))) (
 .need (i64ok (r * r)) (
 cond (decide (F.far u v px py ≤ r * r)) (
  cond (decide (b < F.gnd ax ay sz nx ny l u v)) (
   .need (i64ok (v + 1)) (
   .ret (.cut (cutAt Try.f43 6) ⟨tmG 46 [(2, .c (.int .i64 r)), (0, .c (.ptr 1 0 0)), (0, .c (.ptr 2 0 0)), (2, .c (.int .i64 (F.gnd ax ay sz nx ny l u v))), (0, .c (.int .i64 u)), (0, .c (.int .i64 (v + 1)))], [.inp 0 l, .blk [.int .i64 ax, .int .i64 ay, .int .i64 sz, .int .i64 nx, .int .i64 ny, .slc 0 0 (List.length l) l_t] 70, .blk [.int .i64 px, .int .i64 py] 23]⟩))) (
   .need (i64ok (v + 1)) (
   .ret (.cut (cutAt Try.f43 6) ⟨tmG 46 [(2, .c (.int .i64 r)), (0, .c (.ptr 1 0 0)), (0, .c (.ptr 2 0 0)), (2, .c (.int .i64 b)), (0, .c (.int .i64 u)), (0, .c (.int .i64 (v + 1)))], [.inp 0 l, .blk [.int .i64 ax, .int .i64 ay, .int .i64 sz, .int .i64 nx, .int .i64 ny, .slc 0 0 (List.length l) l_t] 70, .blk [.int .i64 px, .int .i64 py] 23]⟩)))) (
  .need (i64ok (v + 1)) (
  .ret (.cut (cutAt Try.f43 6) ⟨tmG 46 [(2, .c (.int .i64 r)), (0, .c (.ptr 1 0 0)), (0, .c (.ptr 2 0 0)), (2, .c (.int .i64 b)), (0, .c (.int .i64 u)), (0, .c (.int .i64 (v + 1)))], [.inp 0 l, .blk [.int .i64 ax, .int .i64 ay, .int .i64 sz, .int .i64 nx, .int .i64 ny, .slc 0 0 (List.length l) l_t] 70, .blk [.int .i64 px, .int .i64 py] 23]⟩))))))) (
 .need (i64ok (u + 1)) (
 .ret (.cut (cutAt Try.f43 3) ⟨tmG 47 [(2, .c (.int .i64 r)), (0, .c (.ptr 1 0 0)), (0, .c (.ptr 2 0 0)), (2, .c (.int .i64 b)), (0, .c (.int .i64 (u + 1)))], [.inp 0 l, .blk [.int .i64 ax, .int .i64 ay, .int .i64 sz, .int .i64 nx, .int .i64 ny, .slc 0 0 (List.length l) l_t] 70, .blk [.int .i64 px, .int .i64 py] 23]⟩)))) := by kernel_rfl



theorem ttop_in (ax ay sz nx ny : Int) (l : List Int) (l_t : Bool) (px py r : Int) (e : F.gridE ax ay sz nx ny l = 0) (q1 : -1000000 ≤ px ∧ px ≤ 1000000) (q2 : -1000000 ≤ py ∧ py ≤ 1000000) (q3 : 0 ≤ r ∧ r ≤ 1000) (b0 : Base) (hb0 : b0.n = 1) (R u : Int) (hu : px - r ≤ u ∧ u ≤ px + r)
    (hout : ∀ b, R = TP.fold2 (F.ptHit px py r) (F.gnd ax ay sz nx ny l) (2 * r + 1).toNat (py - r) (px + r - u).toNat (u + 1) b → Sym.Runs Try.prog b0 (cutAt Try.f43 3) (st_ttop_3 ax ay sz nx ny l l_t px py r (u + 1) b) (Sym.Ends Try.prog Try.f43 1 (.c (.int .i64 R)) [])) :
    ∀ (m : Nat) (v b : Int), py - r ≤ v → v + m = py + r + 1 → R = TP.fold2 (F.ptHit px py r) (F.gnd ax ay sz nx ny l) (2 * r + 1).toNat (py - r) (px + r - u).toNat (u + 1) (TP.foldX (F.ptHit px py r u) (F.gnd ax ay sz nx ny l u) m v b) →
    Sym.Runs Try.prog b0 (cutAt Try.f43 6) (st_ttop_6 ax ay sz nx ny l l_t px py r u v b) (Sym.Ends Try.prog Try.f43 1 (.c (.int .i64 R)) []) := by
  intro m
  induction m with
  | zero =>
    intro v b h0 hm hR
    have nx' := hout b hR
    refine Runs.go (cfg := C_hgst) L_hgst_ok mixed cuts_ttop 400 hb0 (ttop_t6 ax ay sz nx ny l l_t px py r u v b) ?_
    have h1 : ¬ v ≤ py + r := by omega
    have u1 : i64ok (py + r) := by unfold i64ok; omega
    have u2 : i64ok (u + 1) := by unfold i64ok; omega
    simp only [T.wp, T.wp_cond, Aft, Int.ofNat_eq_natCast, decide_eq_true_eq, and_true, true_and, Nat.zero_add, Bool.not_eq_true', decide_eq_false_iff_not, h1, u1, u2, if_false]
    exact nx'
  | succ m ih =>
    intro v b h0 hm hR
    have h1 : v ≤ py + r := by omega
    have u1 : i64ok (py + r) := by unfold i64ok; omega
    have k4 := mul_bd (x := r) (y := r) (a := 1000) (b := 1000) (by omega) (by omega)
    have u2 : i64ok (r * r) := by unfold i64ok; omega
    have u3 : i64ok (v + 1) := by unfold i64ok; omega
    have u4 : -2000000 ≤ u ∧ u ≤ 2000000 := by omega
    have u5 : -2000000 ≤ v ∧ v ≤ 2000000 := by omega
    have w1 : F.b9 u := by unfold F.b9; omega
    have w2 : F.b9 v := by unfold F.b9; omega
    have w3 : F.b9 px := by unfold F.b9; omega
    have w4 : F.b9 py := by unfold F.b9; omega
    have e3 : F.far u v px py = TP.far u v px py := rfl
    rw [TP.foldX] at hR
    refine Runs.go (cfg := C_hgst) L_hgst_ok mixed cuts_ttop 400 hb0 (ttop_t6 ax ay sz nx ny l l_t px py r u v b) ?_
    simp only [T.wp, T.wp_cond, Aft, Int.ofNat_eq_natCast, decide_eq_true_eq, and_true, true_and, Nat.zero_add, Bool.not_eq_true', decide_eq_false_iff_not, h1, if_true, e, e3, u1, u2, u3, u4, u5, w1, w2, w3, w4]
    by_cases hh : TP.far u v px py ≤ r * r
    · rw [if_pos (show F.ptHit px py r u v = true from decide_eq_true hh)] at hR
      rw [if_pos hh]
      by_cases hb : b < F.gnd ax ay sz nx ny l u v
      · rw [if_pos hb]
        rw [show max b (F.gnd ax ay sz nx ny l u v) = F.gnd ax ay sz nx ny l u v by omega] at hR
        exact ih (v + 1) _ (by omega) (by omega) hR
      · rw [if_neg hb]
        rw [show max b (F.gnd ax ay sz nx ny l u v) = b by omega] at hR
        exact ih (v + 1) _ (by omega) (by omega) hR
    · rw [if_neg (show ¬ F.ptHit px py r u v = true from fun h => hh (of_decide_eq_true h))] at hR
      rw [if_neg hh]
      exact ih (v + 1) b (by omega) (by omega) hR
theorem ttop_out (ax ay sz nx ny : Int) (l : List Int) (l_t : Bool) (px py r : Int) (e : F.gridE ax ay sz nx ny l = 0) (q1 : -1000000 ≤ px ∧ px ≤ 1000000) (q2 : -1000000 ≤ py ∧ py ≤ 1000000) (q3 : 0 ≤ r ∧ r ≤ 1000) (b0 : Base) (hb0 : b0.n = 1) (R : Int) : ∀ (m : Nat) (u b : Int), px - r ≤ u → u + m = px + r + 1 → R = TP.fold2 (F.ptHit px py r) (F.gnd ax ay sz nx ny l) (2 * r + 1).toNat (py - r) m u b →
    Sym.Runs Try.prog b0 (cutAt Try.f43 3) (st_ttop_3 ax ay sz nx ny l l_t px py r u b) (Sym.Ends Try.prog Try.f43 1 (.c (.int .i64 R)) []) := by
  intro m
  induction m with
  | zero =>
    intro u b h0 hm hR
    refine Runs.go (cfg := C_hgst) L_hgst_ok mixed cuts_ttop 400 hb0 (ttop_t3 ax ay sz nx ny l l_t px py r u b) ?_
    have h1 : ¬ u ≤ px + r := by omega
    have u1 : i64ok (px + r) := by unfold i64ok; omega
    simp only [T.wp, T.wp_cond, Aft, Int.ofNat_eq_natCast, decide_eq_true_eq, and_true, true_and, Nat.zero_add, Bool.not_eq_true', decide_eq_false_iff_not, h1, u1, if_false]
    rw [hR]
    simp [TP.fold2]
  | succ m ih =>
    intro u b h0 hm hR
    refine Runs.go (cfg := C_hgst) L_hgst_ok mixed cuts_ttop 400 hb0 (ttop_t3 ax ay sz nx ny l l_t px py r u b) ?_
    have h1 : u ≤ px + r := by omega
    have u1 : i64ok (px + r) := by unfold i64ok; omega
    have u2 : i64ok (py - r) := by unfold i64ok; omega
    have hm' : (px + r - u).toNat = m := by omega
    simp only [T.wp, T.wp_cond, Aft, Int.ofNat_eq_natCast, decide_eq_true_eq, and_true, true_and, Nat.zero_add, Bool.not_eq_true', decide_eq_false_iff_not, h1, u1, u2, if_true]
    rw [TP.fold2] at hR
    exact ttop_in ax ay sz nx ny l l_t px py r e q1 q2 q3 b0 hb0 R u ⟨h0, h1⟩ (fun b' hb' => ih (u + 1) b' (by omega) (by omega) (by rw [hm'] at hb'; exact hb')) (2 * r + 1).toNat (py - r) b (by omega) (by omega) (by rw [hm']; exact hR)
theorem ttop_run (ax ay sz nx ny : Int) (l : List Int) (l_t : Bool) (px py : Int) (r : Int) (b0 : Base) (hb : b0.n = 1) (h0 : F.gridE ax ay sz nx ny l = 0) (h1 : -1000000 ≤ px ∧ px ≤ 1000000) (h2 : -1000000 ≤ py ∧ py ≤ 1000000) (h3 : 0 ≤ r ∧ r ≤ 1000) : Sym.Runs Try.prog b0 [.code (codeOf Try.f43)] ⟨argsS Try.f43 [.agg [.int .i64 ax, .int .i64 ay, .int .i64 sz, .int .i64 nx, .int .i64 ny, .slc 0 0 (List.length l) l_t], .agg [.int .i64 px, .int .i64 py], .c (.int .i64 r)], ([.inp 0 l] : Heap cod)⟩ (Sym.Ends Try.prog Try.f43 1 (.c (.int .i64 (F.topV ax ay sz nx ny l px py r))) []) := by
  refine Runs.go (cfg := C_hgst) L_hgst_ok mixed cuts_ttop 400 hb (ttop_t0 ax ay sz nx ny l l_t px py r) ?_
  have u1 : i64ok (px - r) := by unfold i64ok; omega
  simp only [T.wp, T.wp_cond, Aft, Int.ofNat_eq_natCast, decide_eq_true_eq, and_true, true_and, Nat.zero_add, Bool.not_eq_true', decide_eq_false_iff_not, u1]
  exact ttop_out ax ay sz nx ny l l_t px py r h0 h1 h2 h3 b0 hb _ (2 * r + 1).toNat (px - r) 0 (by omega) (by omega) rfl



noncomputable def s_ttop : Summ cod := fun args H => match args, H with
  | [.agg [.int .i64 ax, .int .i64 ay, .int .i64 sz, .int .i64 nx, .int .i64 ny, .slc 0 l_i l_n l_t], .agg [.int .i64 px, .int .i64 py], .c (.int .i64 r)], [o0] => (match o0.asInp 0 with | some l => .need ((l_i = 0 ∧ l_n = List.length l) ∧ (F.gridE ax ay sz nx ny l = 0) ∧ (-1000000 ≤ px ∧ px ≤ 1000000) ∧ (-1000000 ≤ py ∧ py ≤ 1000000) ∧ (0 ≤ r ∧ r ≤ 1000)) (.ret (.c (.int .i64 (F.topV ax ay sz nx ny l px py r)), [])) | none => .fail)
  | _, _ => .fail


theorem ttop_sound : Sound Try.prog cod 43 s_ttop := sound_runs (cfg := C_hgst) L_hgst_ok mixed Try.func43 rfl rfl _ fun args H r news hg b0 hb => by
  unfold s_ttop at hg
  split at hg
  · skip
    split at hg
    · rename_i l hx0
      cases asInp_spec hx0
      simp only [T.gives, T.wp, Prod.mk.injEq] at hg
      obtain ⟨⟨⟨rfl, rfl⟩, q1, q2, q3, q4⟩, rfl, rfl⟩ := hg
      exact ttop_run _ _ _ _ _ _ _ _ _ _ b0 hb (by assumption) (by assumption) (by assumption) (by assumption)
    · exact hg.elim
  · exact hg.elim

noncomputable def L_ttop : Sums cod := (43, .p s_ttop) :: L_hgst
noncomputable def C_ttop : Cfg cod := mkC L_ttop

theorem L_ttop_ok : Snd Try.prog cod L_ttop := .cons ttop_sound L_hgst_ok


end
end Go.Proofs.Ythljcjighomgkaa
