/- Part of a claim: lemmas on the way to its theorem; each states its own conditions. -/
import Derived.Test.YthljcjighomgkaaFr
namespace Go.Proofs.Ythljcjighomgkaa
open Sym Go.RowKit
noncomputable section
set_option maxRecDepth 100000
set_option maxHeartbeats 4000000

namespace F
def tpart (t x y h ra c : Int) : Int := if inb t 0 200000 && (placed x y && (inb h 0 60000 && (inb ra 0 4000000 && inb c (-1) 4095))) then 0 else 4
def trackE (i st t x y sx sy h r ra c hi mi sl lt lx ly lh lc le : Int) : Int :=
  if tpart t x y h ra c = 0 then
    (if inb sx (-12800) 12800 = true then (if inb sy (-12800) 12800 = true then (if inb r (-3200) 3200 = true then (if inb sl 0 409600 = true then
      (if i < 0 then 4 else if hi < 0 then 4 else if mi < 0 then 4 else if inb st 0 2 = true then (if spot lt lx ly lh lc le = 0 then (if t < lt then 12 else 0) else spot lt lx ly lh lc le) else 1)
    else 4) else 4) else 4) else 4)
  else tpart t x y h ra c
def z (e v : Int) : Int := if e = 0 then v else 0
def missE (i st t x y sx sy h r ra c hi mi sl lt lx ly lh lc le n : Int) : Int := if F.trackE i st t x y sx sy h r ra c hi mi sl lt lx ly lh lc le = 0 then (if inb n 0 100 then 0 else 4) else F.trackE i st t x y sx sy h r ra c hi mi sl lt lx ly lh lc le
def cs (n : Int) : Int := if n = 1 then 2 else n
def ch (n : Int) : Int := if n = 2 then 1 else n
def cm (n : Int) : Int := if n < 101 then n + 1 else 101
end F


theorem trackE_zero {i st t x y sx sy h r ra c hi mi sl lt lx ly lh lc le : Int} (e : F.trackE i st t x y sx sy h r ra c hi mi sl lt lx ly lh lc le = 0) : (0 ≤ t ∧ t ≤ 200000) ∧ (-1000000 ≤ x ∧ x ≤ 1000000) ∧ (-1000000 ≤ y ∧ y ≤ 1000000) ∧ (0 ≤ h ∧ h ≤ 60000) ∧ (0 ≤ ra ∧ ra ≤ 4000000) ∧ (-1 ≤ c ∧ c ≤ 4095) ∧ (-12800 ≤ sx ∧ sx ≤ 12800) ∧ (-12800 ≤ sy ∧ sy ≤ 12800) ∧ (-3200 ≤ r ∧ r ≤ 3200) ∧
    (0 ≤ sl ∧ sl ≤ 409600) ∧ 0 ≤ i ∧ 0 ≤ hi ∧ 0 ≤ mi ∧ (0 ≤ st ∧ st ≤ 2) ∧ F.spot lt lx ly lh lc le = 0 ∧ lt ≤ t := by
  unfold F.trackE at e
  by_cases h1 : F.tpart t x y h ra c = 0
  · rw [if_pos h1] at e
    by_cases h2 : F.inb sx (-12800) 12800 = true
    · rw [if_pos h2] at e
      by_cases h3 : F.inb sy (-12800) 12800 = true
      · rw [if_pos h3] at e
        by_cases h4 : F.inb r (-3200) 3200 = true
        · rw [if_pos h4] at e
          by_cases h5 : F.inb sl 0 409600 = true
          · rw [if_pos h5] at e
            by_cases h6 : i < 0
            · rw [if_pos h6] at e; cases e
            rw [if_neg h6] at e
            by_cases h7 : hi < 0
            · rw [if_pos h7] at e; cases e
            rw [if_neg h7] at e
            by_cases h8 : mi < 0
            · rw [if_pos h8] at e; cases e
            rw [if_neg h8] at e
            by_cases h9 : F.inb st 0 2 = true
            · rw [if_pos h9] at e
              by_cases h10 : F.spot lt lx ly lh lc le = 0
              · rw [if_pos h10] at e
                by_cases h11 : t < lt
                · rw [if_pos h11] at e; cases e
                unfold F.tpart F.placed F.inb at h1
                split at h1
                · rename_i h12
                  unfold F.inb at h2 h3 h4 h5 h9
                  simp only [Bool.and_eq_true, decide_eq_true_eq] at h2 h3 h4 h5 h9 h12
                  refine ⟨?_, ?_, ?_, ?_, ?_, ?_, ?_, ?_, ?_, ?_, ?_, ?_, ?_, ?_, h10, ?_⟩ <;> omega
                · cases h1
              · rw [if_neg h10] at e; exact absurd e h10
            · rw [if_neg h9] at e; cases e
          · rw [if_neg h5] at e; cases e
        · rw [if_neg h4] at e; cases e
      · rw [if_neg h3] at e; cases e
    · rw [if_neg h2] at e; cases e
  · rw [if_neg h1] at e; exact absurd e h1
theorem out_inb (n lo hi : Int) : F.out n lo hi = !F.inb n lo hi := by
  unfold F.out F.inb
  by_cases h1 : n < lo
  · have : ¬ lo ≤ n := by omega
    simp [h1, this]
  · have : lo ≤ n := by omega
    by_cases h2 : hi < n
    · have : ¬ n ≤ hi := by omega
      simp [*]
    · have : n ≤ hi := by omega
      simp [*]
theorem spot_zero {a b c d e f : Int} (h : F.spot a b c d e f = 0) : (0 ≤ a ∧ a ≤ 200000) ∧ (-1000000 ≤ b ∧ b ≤ 1000000) ∧ (-1000000 ≤ c ∧ c ≤ 1000000) ∧ (0 ≤ d ∧ d ≤ 60000) ∧ (-1 ≤ e ∧ e ≤ 4095) ∧ (0 ≤ f ∧ f ≤ 1000000) := by
  unfold F.spot F.placed F.inb at h
  split at h
  · simp only [Bool.and_eq_true, decide_eq_true_eq] at *
    omega
  · cases h

noncomputable def s_fout : Summ cod := fun args H => match H with
  | [] => match rd args with
    | some [[n], [lo], [hi]] => (.ret (.c (.bool (F.out n lo hi)), []))
    | _ => .fail
  | _ => .fail

theorem fout_tree (n lo hi : Int) : symF C_rsite [] Try.f71.results.toList (List.length ([] : Heap cod)) 400 [.code (codeOf Try.f71)] ⟨argsS Try.f71 [.c (.int .i64 n), .c (.int .i64 lo), .c (.int .i64 hi)], []⟩ =
 cond (decide (n < lo)) (
 .ret (.fin (.c (.bool true)) [])) (
 .ret (.fin (.c (.bool (decide (hi < n)))) [])) := by kernel_rfl

theorem fout_sound : Sound Try.prog cod 71 s_fout := sound_flat (cfg := C_rsite) L_rsite_ok mixed Try.func71 rfl rfl _ 400 fun args H r news hg => by
  unfold s_fout at hg
  split at hg
  · split at hg
    · rename_i n lo hi hrd
      have hargs := rd_spec hrd
      simp only [List.map, wr1, ints, List.tail] at hargs
      subst hargs
      clear hrd
      rw [fout_tree]
      try simp only [T.gives, T.wp, Prod.mk.injEq] at hg
      obtain ⟨rfl, rfl⟩ := hg
      simp only [T.wp, T.wp_cond, Fin.fin.injEq, SV.c.injEq, Cell.bool.injEq, Cell.int.injEq, and_true, true_and, decide_eq_true_eq, F.out]
      (repeat' split) <;> simp_all <;> omega
    · exact hg.elim
  · exact hg.elim

noncomputable def L_fout : Sums cod := (71, .p s_fout) :: L_rsite
noncomputable def C_fout : Cfg cod := mkC L_fout

theorem L_fout_ok : Snd Try.prog cod L_fout := .cons fout_sound L_rsite_ok

noncomputable def s_tpart : Summ cod := fun args H => match H with
  | [] => match rd args with
    | some [[_, i, st, t, x, y, sx, sy, h, r, ra, c, hi, mi]] => (.ret (.c (.int .i64 (F.tpart t x y h ra c)), []))
    | _ => .fail
  | _ => .fail

theorem tpart_tree (i st t x y sx sy h r ra c hi mi : Int) : symF C_fout [] Try.f54.results.toList (List.length ([] : Heap cod)) 400 [.code (codeOf Try.f54)] ⟨argsS Try.f54 [.agg [.int .i64 i, .int .i64 st, .int .i64 t, .int .i64 x, .int .i64 y, .int .i64 sx, .int .i64 sy, .int .i64 h, .int .i64 r, .int .i64 ra, .int .i64 c, .int .i64 hi, .int .i64 mi]], []⟩ =
 cond (F.inb t 0 200000) (
 cond (F.placed x y) (
  cond (F.inb h 0 60000) (
   cond (F.inb ra 0 4000000) (
    cond (F.inb c (-1) 4095) (
     .ret (.fin (.c (.int .i64 0)) [])) (
     .ret (.fin (.c (.int .i64 4)) []))) (
    .ret (.fin (.c (.int .i64 4)) []))) (
   .ret (.fin (.c (.int .i64 4)) []))) (
  .ret (.fin (.c (.int .i64 4)) []))) (
 .ret (.fin (.c (.int .i64 4)) [])) := by kernel_rfl

theorem tpart_sound : Sound Try.prog cod 54 s_tpart := sound_flat (cfg := C_fout) L_fout_ok mixed Try.func54 rfl rfl _ 400 fun args H r news hg => by
  unfold s_tpart at hg
  split at hg
  · split at hg
    · rename_i _ i st t x y sx sy h r ra c hi mi hrd
      have hargs := rd_spec hrd
      simp only [List.map, wr1, ints, List.tail] at hargs
      subst hargs
      clear hrd
      rw [tpart_tree]
      try simp only [T.gives, T.wp, Prod.mk.injEq] at hg
      obtain ⟨rfl, rfl⟩ := hg
      simp only [T.wp, T.wp_cond, Fin.fin.injEq, SV.c.injEq, Cell.bool.injEq, Cell.int.injEq, and_true, true_and, decide_eq_true_eq, F.tpart]
      (repeat' split) <;> simp_all <;> omega
    · exact hg.elim
  · exact hg.elim

noncomputable def L_tpart : Sums cod := (54, .p s_tpart) :: L_fout
noncomputable def C_tpart : Cfg cod := mkC L_tpart

theorem L_tpart_ok : Snd Try.prog cod L_tpart := .cons tpart_sound L_fout_ok

noncomputable def s_ctrack : Summ cod := fun args H => match H with
  | [] => match rd args with
    | some [[_, i, st, t, x, y, sx, sy, h, r, ra, c, hi, mi]] => (.ret (.c (.int .i64 (F.tpart t x y h ra c)), []))
    | _ => .fail
  | _ => .fail

theorem ctrack_tree (i st t x y sx sy h r ra c hi mi : Int) : symF C_tpart [] Try.f78.results.toList (List.length ([] : Heap cod)) 400 [.code (codeOf Try.f78)] ⟨argsS Try.f78 [.agg [.int .i64 i, .int .i64 st, .int .i64 t, .int .i64 x, .int .i64 y, .int .i64 sx, .int .i64 sy, .int .i64 h, .int .i64 r, .int .i64 ra, .int .i64 c, .int .i64 hi, .int .i64 mi]], []⟩ =
 cond (!decide (F.spot t x y h c 0 = 0)) (
 .ret (.fin (.c (.int .i64 4)) [])) (
 cond (decide (ra < 0)) (
  .ret (.fin (.c (.int .i64 4)) [])) (
  cond (decide (4000000 < ra)) (
   .ret (.fin (.c (.int .i64 4)) [])) (
   .ret (.fin (.c (.int .i64 0)) [])))) := by kernel_rfl

theorem ctrack_sound : Sound Try.prog cod 78 s_ctrack := sound_flat (cfg := C_tpart) L_tpart_ok mixed Try.func78 rfl rfl _ 400 fun args H r news hg => by
  unfold s_ctrack at hg
  split at hg
  · split at hg
    · rename_i _ i st t x y sx sy h r ra c hi mi hrd
      have hargs := rd_spec hrd
      simp only [List.map, wr1, ints, List.tail] at hargs
      subst hargs
      clear hrd
      rw [ctrack_tree]
      simp only [T.gives, T.wp, Prod.mk.injEq] at hg
      obtain ⟨rfl, rfl⟩ := hg
      simp only [T.wp, T.wp_cond, Fin.fin.injEq, SV.c.injEq, SV.tup.injEq, SV.agg.injEq, List.cons.injEq, Cell.bool.injEq, Cell.int.injEq, and_true, true_and, decide_eq_true_eq]
      have h0 : F.inb 0 0 1000000 = true := by decide
      have h1 : F.inb ra 0 4000000 = (!decide (ra < 0) && !decide (4000000 < ra)) := by
        unfold F.inb
        by_cases g1 : ra < 0 <;> by_cases g2 : 4000000 < ra <;> simp [g1, g2] <;> omega
      unfold F.tpart F.spot
      rw [h0, h1]
      cases F.inb t 0 200000 <;> cases F.placed x y <;> cases F.inb h 0 60000 <;> cases F.inb c (-1) 4095 <;> by_cases g1 : ra < 0 <;> by_cases g2 : 4000000 < ra <;> simp [g1, g2]
    · exact hg.elim
  · exact hg.elim

noncomputable def L_ctrack : Sums cod := (78, .p s_ctrack) :: L_tpart
noncomputable def C_ctrack : Cfg cod := mkC L_ctrack

theorem L_ctrack_ok : Snd Try.prog cod L_ctrack := .cons ctrack_sound L_tpart_ok

noncomputable def s_trackE : Summ cod := fun args H => match H with
  | [] => match rd args with
    | some [[_, i, st, t, x, y, sx, sy, h, r, ra, c, hi, mi, sl, lt, lx, ly, lh, lc, le]] => (.ret (.c (.int .i64 (F.trackE i st t x y sx sy h r ra c hi mi sl lt lx ly lh lc le)), []))
    | _ => .fail
  | _ => .fail

theorem trackE_tree (i st t x y sx sy h r ra c hi mi sl lt lx ly lh lc le : Int) : symF C_ctrack [] Try.f16.results.toList (List.length ([] : Heap cod)) 400 [.code (codeOf Try.f16)] ⟨argsS Try.f16 [.agg [.int .i64 i, .int .i64 st, .int .i64 t, .int .i64 x, .int .i64 y, .int .i64 sx, .int .i64 sy, .int .i64 h, .int .i64 r, .int .i64 ra, .int .i64 c, .int .i64 hi, .int .i64 mi, .int .i64 sl, .int .i64 lt, .int .i64 lx, .int .i64 ly, .int .i64 lh, .int .i64 lc, .int .i64 le]], []⟩ =
 cond (!decide (F.tpart t x y h ra c = 0)) (
 .ret (.fin (.c (.int .i64 (F.tpart t x y h ra c))) [])) (
 cond (!F.inb sx (-12800) 12800) (
  .ret (.fin (.c (.int .i64 4)) [])) (
  cond (!F.inb sy (-12800) 12800) (
   .ret (.fin (.c (.int .i64 4)) [])) (
   cond (!F.inb r (-3200) 3200) (
    .ret (.fin (.c (.int .i64 4)) [])) (
    cond (!F.inb sl 0 409600) (
     .ret (.fin (.c (.int .i64 4)) [])) (
     cond (decide (i < 0)) (
      .ret (.fin (.c (.int .i64 4)) [])) (
      cond (decide (hi < 0)) (
       .ret (.fin (.c (.int .i64 4)) [])) (
       cond (decide (mi < 0)) (
        .ret (.fin (.c (.int .i64 4)) [])) (
        cond (!F.inb st 0 2) (
         .ret (.fin (.c (.int .i64 1)) [])) (
         cond (!decide (F.spot lt lx ly lh lc le = 0)) (
          .ret (.fin (.c (.int .i64 (F.spot lt lx ly lh lc le))) [])) (
          cond (decide (t < lt)) (
           .ret (.fin (.c (.int .i64 12)) [])) (
           .ret (.fin (.c (.int .i64 0)) [])))))))))))) := by kernel_rfl

theorem trackE_sound : Sound Try.prog cod 16 s_trackE := sound_flat (cfg := C_ctrack) L_ctrack_ok mixed Try.func16 rfl rfl _ 400 fun args H r news hg => by
  unfold s_trackE at hg
  split at hg
  · split at hg
    · rename_i _ i st t x y sx sy h r ra c hi mi sl lt lx ly lh lc le hrd
      have hargs := rd_spec hrd
      simp only [List.map, wr1, ints, List.tail] at hargs
      subst hargs
      clear hrd
      rw [trackE_tree]
      try simp only [T.gives, T.wp, Prod.mk.injEq] at hg
      obtain ⟨rfl, rfl⟩ := hg
      simp only [T.wp, T.wp_cond, Fin.fin.injEq, SV.c.injEq, Cell.bool.injEq, Cell.int.injEq, and_true, true_and, decide_eq_true_eq, F.trackE]
      (repeat' split) <;> simp_all <;> omega
    · exact hg.elim
  · exact hg.elim

noncomputable def L_trackE : Sums cod := (16, .p s_trackE) :: L_ctrack
noncomputable def C_trackE : Cfg cod := mkC L_trackE

theorem L_trackE_ok : Snd Try.prog cod L_trackE := .cons trackE_sound L_ctrack_ok

noncomputable def s_fcheck : Summ cod := fun args H => match H with
  | [] => match rd args with
    | some [[_, i, st, t, x, y, sx, sy, h, r, ra, c, hi, mi, sl, lt, lx, ly, lh, lc, le]] => (.ret (.c (.int .i64 (F.trackE i st t x y sx sy h r ra c hi mi sl lt lx ly lh lc le)), []))
    | _ => .fail
  | _ => .fail

theorem fcheck_tree (i st t x y sx sy h r ra c hi mi sl lt lx ly lh lc le : Int) : symF C_trackE [] Try.f47.results.toList (List.length ([] : Heap cod)) 400 [.code (codeOf Try.f47)] ⟨argsS Try.f47 [.agg [.int .i64 i, .int .i64 st, .int .i64 t, .int .i64 x, .int .i64 y, .int .i64 sx, .int .i64 sy, .int .i64 h, .int .i64 r, .int .i64 ra, .int .i64 c, .int .i64 hi, .int .i64 mi, .int .i64 sl, .int .i64 lt, .int .i64 lx, .int .i64 ly, .int .i64 lh, .int .i64 lc, .int .i64 le]], []⟩ =
 cond (!decide (F.tpart t x y h ra c = 0)) (
 .ret (.fin (.c (.int .i64 (F.tpart t x y h ra c))) [])) (
 cond (F.out sx (-12800) 12800) (
  .ret (.fin (.c (.int .i64 4)) [])) (
  cond (F.out sy (-12800) 12800) (
   .ret (.fin (.c (.int .i64 4)) [])) (
   cond (F.out r (-3200) 3200) (
    .ret (.fin (.c (.int .i64 4)) [])) (
    cond (F.out sl 0 409600) (
     .ret (.fin (.c (.int .i64 4)) [])) (
     cond (decide (i < 0)) (
      .ret (.fin (.c (.int .i64 4)) [])) (
      cond (decide (hi < 0)) (
       .ret (.fin (.c (.int .i64 4)) [])) (
       cond (decide (mi < 0)) (
        .ret (.fin (.c (.int .i64 4)) [])) (
        cond (F.out st 0 2) (
         .ret (.fin (.c (.int .i64 1)) [])) (
         cond (!decide (F.spot lt lx ly lh lc le = 0)) (
          .ret (.fin (.c (.int .i64 (F.spot lt lx ly lh lc le))) [])) (
          cond (decide (t < lt)) (
           .ret (.fin (.c (.int .i64 12)) [])) (
           .ret (.fin (.c (.int .i64 0)) [])))))))))))) := by kernel_rfl

theorem fcheck_sound : Sound Try.prog cod 47 s_fcheck := sound_flat (cfg := C_trackE) L_trackE_ok mixed Try.func47 rfl rfl _ 400 fun args H r news hg => by
  unfold s_fcheck at hg
  split at hg
  · split at hg
    · rename_i _ i st t x y sx sy h r ra c hi mi sl lt lx ly lh lc le hrd
      have hargs := rd_spec hrd
      simp only [List.map, wr1, ints, List.tail] at hargs
      subst hargs
      clear hrd
      rw [fcheck_tree]
      try simp only [T.gives, T.wp, Prod.mk.injEq] at hg
      obtain ⟨rfl, rfl⟩ := hg
      simp only [T.wp, T.wp_cond, Fin.fin.injEq, SV.c.injEq, Cell.bool.injEq, Cell.int.injEq, and_true, true_and, decide_eq_true_eq, F.trackE, out_inb]
      (repeat' split) <;> simp_all <;> omega
    · exact hg.elim
  · exact hg.elim

noncomputable def L_fcheck : Sums cod := (47, .p s_fcheck) :: L_trackE
noncomputable def C_fcheck : Cfg cod := mkC L_fcheck

theorem L_fcheck_ok : Snd Try.prog cod L_fcheck := .cons fcheck_sound L_trackE_ok

noncomputable def s_still : Summ cod := fun args H => match H with
  | [] => match rd args with
    | some [] => (.ret (.agg [.int .i64 0, .int .i64 0, .int .i64 0, .int .i64 0, .int .i64 0, .int .i64 0, .int .i64 0, .int .i64 0, .int .i64 0, .int .i64 0, .int .i64 0, .int .i64 0, .int .i64 0, .int .i64 0, .int .i64 0, .int .i64 0, .int .i64 0, .int .i64 0, .int .i64 0, .int .i64 0], []))
    | _ => .fail
  | _ => .fail

theorem still_tree : symF C_fcheck [] Try.f13.results.toList (List.length ([] : Heap cod)) 400 [.code (codeOf Try.f13)] ⟨argsS Try.f13 [], []⟩ =
.ret (.fin (.agg [.int .i64 0, .int .i64 0, .int .i64 0, .int .i64 0, .int .i64 0, .int .i64 0, .int .i64 0, .int .i64 0, .int .i64 0, .int .i64 0, .int .i64 0, .int .i64 0, .int .i64 0, .int .i64 0, .int .i64 0, .int .i64 0, .int .i64 0, .int .i64 0, .int .i64 0, .int .i64 0]) []) := by kernel_rfl

theorem still_sound : Sound Try.prog cod 13 s_still := sound_flat (cfg := C_fcheck) L_fcheck_ok mixed Try.func13 rfl rfl _ 400 fun args H r news hg => by
  unfold s_still at hg
  split at hg
  · split at hg
    · rename_i  hrd
      have hargs := rd_spec hrd
      simp only [List.map, wr1, ints, List.tail] at hargs
      subst hargs
      clear hrd
      rw [still_tree]
      cases hg
      simp [T.wp]
    · exact hg.elim
  · exact hg.elim

noncomputable def L_still : Sums cod := (13, .p s_still) :: L_fcheck
noncomputable def C_still : Cfg cod := mkC L_still

theorem L_still_ok : Snd Try.prog cod L_still := .cons still_sound L_fcheck_ok

noncomputable def s_miss : Summ cod := fun args H => match H with
  | [] => match rd args with
    | some [[_, i, st, t, x, y, sx, sy, h, r, ra, c, hi, mi, sl, lt, lx, ly, lh, lc, le], [n]] => (.ret (.tup [.agg [.int .i64 (F.z (F.missE i st t x y sx sy h r ra c hi mi sl lt lx ly lh lc le n) i), .int .i64 (F.z (F.missE i st t x y sx sy h r ra c hi mi sl lt lx ly lh lc le n) (F.cs st)), .int .i64 (F.z (F.missE i st t x y sx sy h r ra c hi mi sl lt lx ly lh lc le n) t), .int .i64 (F.z (F.missE i st t x y sx sy h r ra c hi mi sl lt lx ly lh lc le n) x), .int .i64 (F.z (F.missE i st t x y sx sy h r ra c hi mi sl lt lx ly lh lc le n) y), .int .i64 (F.z (F.missE i st t x y sx sy h r ra c hi mi sl lt lx ly lh lc le n) sx), .int .i64 (F.z (F.missE i st t x y sx sy h r ra c hi mi sl lt lx ly lh lc le n) sy), .int .i64 (F.z (F.missE i st t x y sx sy h r ra c hi mi sl lt lx ly lh lc le n) h), .int .i64 (F.z (F.missE i st t x y sx sy h r ra c hi mi sl lt lx ly lh lc le n) r), .int .i64 (F.z (F.missE i st t x y sx sy h r ra c hi mi sl lt lx ly lh lc le n) ra), .int .i64 (F.z (F.missE i st t x y sx sy h r ra c hi mi sl lt lx ly lh lc le n) c), .int .i64 (F.z (F.missE i st t x y sx sy h r ra c hi mi sl lt lx ly lh lc le n) hi), .int .i64 (F.z (F.missE i st t x y sx sy h r ra c hi mi sl lt lx ly lh lc le n) (F.cm mi)), .int .i64 (F.z (F.missE i st t x y sx sy h r ra c hi mi sl lt lx ly lh lc le n) sl), .int .i64 (F.z (F.missE i st t x y sx sy h r ra c hi mi sl lt lx ly lh lc le n) lt), .int .i64 (F.z (F.missE i st t x y sx sy h r ra c hi mi sl lt lx ly lh lc le n) lx), .int .i64 (F.z (F.missE i st t x y sx sy h r ra c hi mi sl lt lx ly lh lc le n) ly), .int .i64 (F.z (F.missE i st t x y sx sy h r ra c hi mi sl lt lx ly lh lc le n) lh), .int .i64 (F.z (F.missE i st t x y sx sy h r ra c hi mi sl lt lx ly lh lc le n) lc), .int .i64 (F.z (F.missE i st t x y sx sy h r ra c hi mi sl lt lx ly lh lc le n) le)], .c (.bool (decide (F.missE i st t x y sx sy h r ra c hi mi sl lt lx ly lh lc le n = 0) && decide (n < F.cm mi))), .c (.int .i64 (F.missE i st t x y sx sy h r ra c hi mi sl lt lx ly lh lc le n))], []))
    | _ => .fail
  | _ => .fail

theorem miss_tree (i st t x y sx sy h r ra c hi mi sl lt lx ly lh lc le n : Int) : symF C_still [] Try.f14.results.toList (List.length ([] : Heap cod)) 400 [.code (codeOf Try.f14)] ⟨argsS Try.f14 [.agg [.int .i64 i, .int .i64 st, .int .i64 t, .int .i64 x, .int .i64 y, .int .i64 sx, .int .i64 sy, .int .i64 h, .int .i64 r, .int .i64 ra, .int .i64 c, .int .i64 hi, .int .i64 mi, .int .i64 sl, .int .i64 lt, .int .i64 lx, .int .i64 ly, .int .i64 lh, .int .i64 lc, .int .i64 le], .c (.int .i64 n)], []⟩ =
 cond (!decide (F.trackE i st t x y sx sy h r ra c hi mi sl lt lx ly lh lc le = 0)) (
 .ret (.fin (.tup [.agg [.int .i64 0, .int .i64 0, .int .i64 0, .int .i64 0, .int .i64 0, .int .i64 0, .int .i64 0, .int .i64 0, .int .i64 0, .int .i64 0, .int .i64 0, .int .i64 0, .int .i64 0, .int .i64 0, .int .i64 0, .int .i64 0, .int .i64 0, .int .i64 0, .int .i64 0, .int .i64 0], .c (.bool false), .c (.int .i64 (F.trackE i st t x y sx sy h r ra c hi mi sl lt lx ly lh lc le))]) [])) (
 cond (decide (n < 0)) (
  .ret (.fin (.tup [.agg [.int .i64 0, .int .i64 0, .int .i64 0, .int .i64 0, .int .i64 0, .int .i64 0, .int .i64 0, .int .i64 0, .int .i64 0, .int .i64 0, .int .i64 0, .int .i64 0, .int .i64 0, .int .i64 0, .int .i64 0, .int .i64 0, .int .i64 0, .int .i64 0, .int .i64 0, .int .i64 0], .c (.bool false), .c (.int .i64 4)]) [])) (
  cond (decide (100 < n)) (
   .ret (.fin (.tup [.agg [.int .i64 0, .int .i64 0, .int .i64 0, .int .i64 0, .int .i64 0, .int .i64 0, .int .i64 0, .int .i64 0, .int .i64 0, .int .i64 0, .int .i64 0, .int .i64 0, .int .i64 0, .int .i64 0, .int .i64 0, .int .i64 0, .int .i64 0, .int .i64 0, .int .i64 0, .int .i64 0], .c (.bool false), .c (.int .i64 4)]) [])) (
   cond (decide (mi < 101)) (
    .need (i64ok (mi + 1)) (
    cond (decide (st = 1)) (
     .ret (.fin (.tup [.agg [.int .i64 i, .int .i64 2, .int .i64 t, .int .i64 x, .int .i64 y, .int .i64 sx, .int .i64 sy, .int .i64 h, .int .i64 r, .int .i64 ra, .int .i64 c, .int .i64 hi, .int .i64 (mi + 1), .int .i64 sl, .int .i64 lt, .int .i64 lx, .int .i64 ly, .int .i64 lh, .int .i64 lc, .int .i64 le], .c (.bool (decide (n < mi + 1))), .c (.int .i64 0)]) [])) (
     .ret (.fin (.tup [.agg [.int .i64 i, .int .i64 st, .int .i64 t, .int .i64 x, .int .i64 y, .int .i64 sx, .int .i64 sy, .int .i64 h, .int .i64 r, .int .i64 ra, .int .i64 c, .int .i64 hi, .int .i64 (mi + 1), .int .i64 sl, .int .i64 lt, .int .i64 lx, .int .i64 ly, .int .i64 lh, .int .i64 lc, .int .i64 le], .c (.bool (decide (n < mi + 1))), .c (.int .i64 0)]) [])))) (
    cond (decide (st = 1)) (
     .ret (.fin (.tup [.agg [.int .i64 i, .int .i64 2, .int .i64 t, .int .i64 x, .int .i64 y, .int .i64 sx, .int .i64 sy, .int .i64 h, .int .i64 r, .int .i64 ra, .int .i64 c, .int .i64 hi, .int .i64 101, .int .i64 sl, .int .i64 lt, .int .i64 lx, .int .i64 ly, .int .i64 lh, .int .i64 lc, .int .i64 le], .c (.bool (decide (n < 101))), .c (.int .i64 0)]) [])) (
     .ret (.fin (.tup [.agg [.int .i64 i, .int .i64 st, .int .i64 t, .int .i64 x, .int .i64 y, .int .i64 sx, .int .i64 sy, .int .i64 h, .int .i64 r, .int .i64 ra, .int .i64 c, .int .i64 hi, .int .i64 101, .int .i64 sl, .int .i64 lt, .int .i64 lx, .int .i64 ly, .int .i64 lh, .int .i64 lc, .int .i64 le], .c (.bool (decide (n < 101))), .c (.int .i64 0)]) [])))))) := by kernel_rfl

theorem miss_sound : Sound Try.prog cod 14 s_miss := sound_flat (cfg := C_still) L_still_ok mixed Try.func14 rfl rfl _ 400 fun args H r news hg => by
  unfold s_miss at hg
  split at hg
  · split at hg
    · rename_i _ i st t x y sx sy h r ra c hi mi sl lt lx ly lh lc le n hrd
      have hargs := rd_spec hrd
      simp only [List.map, wr1, ints, List.tail] at hargs
      subst hargs
      clear hrd
      rw [miss_tree]
      simp only [T.gives, T.wp, Prod.mk.injEq] at hg
      obtain ⟨rfl, rfl⟩ := hg
      simp only [T.wp, T.wp_cond, Fin.fin.injEq, SV.c.injEq, SV.tup.injEq, SV.agg.injEq, List.cons.injEq, Cell.bool.injEq, Cell.int.injEq, and_true, true_and, decide_eq_true_eq]
      have hb := trackE_zero (i := i) (st := st) (t := t) (x := x) (y := y) (sx := sx) (sy := sy) (h := h) (r := r) (ra := ra) (c := c) (hi := hi) (mi := mi) (sl := sl) (lt := lt) (lx := lx) (ly := ly) (lh := lh) (lc := lc) (le := le)
      have hm : F.missE i st t x y sx sy h r ra c hi mi sl lt lx ly lh lc le n = if F.trackE i st t x y sx sy h r ra c hi mi sl lt lx ly lh lc le = 0 then (if F.inb n 0 100 = true then 0 else 4) else F.trackE i st t x y sx sy h r ra c hi mi sl lt lx ly lh lc le := rfl
      generalize F.trackE i st t x y sx sy h r ra c hi mi sl lt lx ly lh lc le = E at *
      generalize F.missE i st t x y sx sy h r ra c hi mi sl lt lx ly lh lc le n = M at *
      by_cases he : E = 0
      · have hb := hb he
        have ho : mi < 101 → i64ok (mi + 1) := by
          unfold i64ok
          omega
        have h0 : n < 0 → F.inb n 0 100 = false := fun h => by
          unfold F.inb
          simp
          omega
        have h1 : 100 < n → F.inb n 0 100 = false := fun h => by
          unfold F.inb
          simp
          omega
        have h2 : ¬ n < 0 → ¬ 100 < n → F.inb n 0 100 = true := fun h h' => by
          unfold F.inb
          simp
          omega
        by_cases g1 : n < 0
        · simp [he, hm, g1, h0 g1, F.z]
        · by_cases g2 : 100 < n
          · simp [he, hm, g1, g2, h1 g2, F.z]
          · by_cases g3 : mi < 101
            · by_cases g4 : st = 1 <;> simp [he, hm, g1, g2, g3, g4, h2 g1 g2, ho g3, F.z, F.cs, F.cm]
            · by_cases g4 : st = 1 <;> simp [he, hm, g1, g2, g3, g4, h2 g1 g2, F.z, F.cs, F.cm]
      · simp [hm, he, F.z]
    · exact hg.elim
  · exact hg.elim

noncomputable def L_miss : Sums cod := (14, .p s_miss) :: L_still
noncomputable def C_miss : Cfg cod := mkC L_miss

theorem L_miss_ok : Snd Try.prog cod L_miss := .cons miss_sound L_still_ok

noncomputable def s_hit : Summ cod := fun args H => match H with
  | [] => match rd args with
    | some [[_, i, st, t, x, y, sx, sy, h, r, ra, c, hi, mi, sl, lt, lx, ly, lh, lc, le]] => (.ret (.tup [.agg [.int .i64 (F.z (F.trackE i st t x y sx sy h r ra c hi mi sl lt lx ly lh lc le) i), .int .i64 (F.z (F.trackE i st t x y sx sy h r ra c hi mi sl lt lx ly lh lc le) (F.ch st)), .int .i64 (F.z (F.trackE i st t x y sx sy h r ra c hi mi sl lt lx ly lh lc le) t), .int .i64 (F.z (F.trackE i st t x y sx sy h r ra c hi mi sl lt lx ly lh lc le) x), .int .i64 (F.z (F.trackE i st t x y sx sy h r ra c hi mi sl lt lx ly lh lc le) y), .int .i64 (F.z (F.trackE i st t x y sx sy h r ra c hi mi sl lt lx ly lh lc le) sx), .int .i64 (F.z (F.trackE i st t x y sx sy h r ra c hi mi sl lt lx ly lh lc le) sy), .int .i64 (F.z (F.trackE i st t x y sx sy h r ra c hi mi sl lt lx ly lh lc le) h), .int .i64 (F.z (F.trackE i st t x y sx sy h r ra c hi mi sl lt lx ly lh lc le) r), .int .i64 (F.z (F.trackE i st t x y sx sy h r ra c hi mi sl lt lx ly lh lc le) ra), .int .i64 (F.z (F.trackE i st t x y sx sy h r ra c hi mi sl lt lx ly lh lc le) c), .int .i64 (F.z (F.trackE i st t x y sx sy h r ra c hi mi sl lt lx ly lh lc le) hi), .int .i64 (F.z (F.trackE i st t x y sx sy h r ra c hi mi sl lt lx ly lh lc le) 0), .int .i64 (F.z (F.trackE i st t x y sx sy h r ra c hi mi sl lt lx ly lh lc le) sl), .int .i64 (F.z (F.trackE i st t x y sx sy h r ra c hi mi sl lt lx ly lh lc le) lt), .int .i64 (F.z (F.trackE i st t x y sx sy h r ra c hi mi sl lt lx ly lh lc le) lx), .int .i64 (F.z (F.trackE i st t x y sx sy h r ra c hi mi sl lt lx ly lh lc le) ly), .int .i64 (F.z (F.trackE i st t x y sx sy h r ra c hi mi sl lt lx ly lh lc le) lh), .int .i64 (F.z (F.trackE i st t x y sx sy h r ra c hi mi sl lt lx ly lh lc le) lc), .int .i64 (F.z (F.trackE i st t x y sx sy h r ra c hi mi sl lt lx ly lh lc le) le)], .c (.int .i64 (F.trackE i st t x y sx sy h r ra c hi mi sl lt lx ly lh lc le))], []))
    | _ => .fail
  | _ => .fail

theorem hit_tree (i st t x y sx sy h r ra c hi mi sl lt lx ly lh lc le : Int) : symF C_miss [] Try.f15.results.toList (List.length ([] : Heap cod)) 400 [.code (codeOf Try.f15)] ⟨argsS Try.f15 [.agg [.int .i64 i, .int .i64 st, .int .i64 t, .int .i64 x, .int .i64 y, .int .i64 sx, .int .i64 sy, .int .i64 h, .int .i64 r, .int .i64 ra, .int .i64 c, .int .i64 hi, .int .i64 mi, .int .i64 sl, .int .i64 lt, .int .i64 lx, .int .i64 ly, .int .i64 lh, .int .i64 lc, .int .i64 le]], []⟩ =
 cond (!decide (F.trackE i st t x y sx sy h r ra c hi mi sl lt lx ly lh lc le = 0)) (
 .ret (.fin (.tup [.agg [.int .i64 0, .int .i64 0, .int .i64 0, .int .i64 0, .int .i64 0, .int .i64 0, .int .i64 0, .int .i64 0, .int .i64 0, .int .i64 0, .int .i64 0, .int .i64 0, .int .i64 0, .int .i64 0, .int .i64 0, .int .i64 0, .int .i64 0, .int .i64 0, .int .i64 0, .int .i64 0], .c (.int .i64 (F.trackE i st t x y sx sy h r ra c hi mi sl lt lx ly lh lc le))]) [])) (
 cond (decide (st = 2)) (
  .ret (.fin (.tup [.agg [.int .i64 i, .int .i64 1, .int .i64 t, .int .i64 x, .int .i64 y, .int .i64 sx, .int .i64 sy, .int .i64 h, .int .i64 r, .int .i64 ra, .int .i64 c, .int .i64 hi, .int .i64 0, .int .i64 sl, .int .i64 lt, .int .i64 lx, .int .i64 ly, .int .i64 lh, .int .i64 lc, .int .i64 le], .c (.int .i64 0)]) [])) (
  .ret (.fin (.tup [.agg [.int .i64 i, .int .i64 st, .int .i64 t, .int .i64 x, .int .i64 y, .int .i64 sx, .int .i64 sy, .int .i64 h, .int .i64 r, .int .i64 ra, .int .i64 c, .int .i64 hi, .int .i64 0, .int .i64 sl, .int .i64 lt, .int .i64 lx, .int .i64 ly, .int .i64 lh, .int .i64 lc, .int .i64 le], .c (.int .i64 0)]) []))) := by kernel_rfl

theorem hit_sound : Sound Try.prog cod 15 s_hit := sound_flat (cfg := C_miss) L_miss_ok mixed Try.func15 rfl rfl _ 400 fun args H r news hg => by
  unfold s_hit at hg
  split at hg
  · split at hg
    · rename_i _ i st t x y sx sy h r ra c hi mi sl lt lx ly lh lc le hrd
      have hargs := rd_spec hrd
      simp only [List.map, wr1, ints, List.tail] at hargs
      subst hargs
      clear hrd
      rw [hit_tree]
      simp only [T.gives, T.wp, Prod.mk.injEq] at hg
      obtain ⟨rfl, rfl⟩ := hg
      simp only [T.wp, T.wp_cond, Fin.fin.injEq, SV.c.injEq, SV.tup.injEq, SV.agg.injEq, List.cons.injEq, Cell.bool.injEq, Cell.int.injEq, and_true, true_and, decide_eq_true_eq]
      generalize F.trackE i st t x y sx sy h r ra c hi mi sl lt lx ly lh lc le = E
      by_cases he : E = 0
      · by_cases g : st = 2 <;> simp [he, g, F.z, F.ch]
      · simp [he, F.z]
    · exact hg.elim
  · exact hg.elim

noncomputable def L_hit : Sums cod := (15, .p s_hit) :: L_miss
noncomputable def C_hit : Cfg cod := mkC L_hit

theorem L_hit_ok : Snd Try.prog cod L_hit := .cons hit_sound L_miss_ok

noncomputable def s_claw : Summ cod := fun args H => match H with
  | [] => match rd args with
    | some [[_, i, st, t, x, y, sx, sy, h, r, ra, c, hi, mi, sl, lt, lx, ly, lh, lc, le], [n]] => (.ret (.c (.bool true), []))
    | _ => .fail
  | _ => .fail

theorem claw_tree (i st t x y sx sy h r ra c hi mi sl lt lx ly lh lc le n : Int) : symF (mkW L_hit) [] Try.f3.results.toList (List.length ([] : Heap cod)) 400 [.code (codeOf Try.f3)] ⟨argsS Try.f3 [.agg [.int .i64 i, .int .i64 st, .int .i64 t, .int .i64 x, .int .i64 y, .int .i64 sx, .int .i64 sy, .int .i64 h, .int .i64 r, .int .i64 ra, .int .i64 c, .int .i64 hi, .int .i64 mi, .int .i64 sl, .int .i64 lt, .int .i64 lx, .int .i64 ly, .int .i64 lh, .int .i64 lc, .int .i64 le], .c (.int .i64 n)], []⟩ =
 cond (!decide (F.trackE i st t x y sx sy h r ra c hi mi sl lt lx ly lh lc le = 0)) (
 cond (decide   (F.missE i st t x y sx sy h r ra c hi mi sl lt lx ly lh lc le n =     F.trackE i st t x y sx sy h r ra c hi mi sl lt lx ly lh lc le)) (
  cond (decide   (F.trackE i st t x y sx sy h r ra c hi mi sl lt lx ly lh lc le =     F.trackE i st t x y sx sy h r ra c hi mi sl lt lx ly lh lc le)) (
   cond (decide (F.z (F.missE i st t x y sx sy h r ra c hi mi sl lt lx ly lh lc le n) i = 0) &&     (decide (F.z (F.missE i st t x y sx sy h r ra c hi mi sl lt lx ly lh lc le n) (F.cs st) = 0) &&       (decide (F.z (F.missE i st t x y sx sy h r ra c hi mi sl lt lx ly lh lc le n) t = 0) &&         (decide (F.z (F.missE i st t x y sx sy h r ra c hi mi sl lt lx ly lh lc le n) x = 0) &&             decide (F.z (F.missE i st t x y sx sy h r ra c hi mi sl lt lx ly lh lc le n) y = 0) &&           (decide (F.z (F.missE i st t x y sx sy h r ra c hi mi sl lt lx ly lh lc le n) sx = 0) &&               decide (F.z (F.missE i st t x y sx sy h r ra c hi mi sl lt lx ly lh lc le n) sy = 0) &&             (decide (F.z (F.missE i st t x y sx sy h r ra c hi mi sl lt lx ly lh lc le n) h = 0) &&               (decide (F.z (F.missE i st t x y sx sy h r ra c hi mi sl lt lx ly lh lc le n) r = 0) &&                 (decide (F.z (F.missE i st t x y sx sy h r ra c hi mi sl lt lx ly lh lc le n) ra = 0) &&                   (decide (F.z (F.missE i st t x y sx sy h r ra c hi mi sl lt lx ly lh lc le n) c = 0) &&                     (decide (F.z (F.missE i st t x y sx sy h r ra c hi mi sl lt lx ly lh lc le n) hi = 0) &&                       decide                         (F.z (F.missE i st t x y sx sy h r ra c hi mi sl lt lx ly lh lc le n) (F.cm mi) = 0)))))))))) &&   (decide (F.z (F.missE i st t x y sx sy h r ra c hi mi sl lt lx ly lh lc le n) sl = 0) &&     (decide (F.z (F.missE i st t x y sx sy h r ra c hi mi sl lt lx ly lh lc le n) lt = 0) &&       (decide (F.z (F.missE i st t x y sx sy h r ra c hi mi sl lt lx ly lh lc le n) lx = 0) &&           decide (F.z (F.missE i st t x y sx sy h r ra c hi mi sl lt lx ly lh lc le n) ly = 0) &&         (decide (F.z (F.missE i st t x y sx sy h r ra c hi mi sl lt lx ly lh lc le n) lh = 0) &&           (decide (F.z (F.missE i st t x y sx sy h r ra c hi mi sl lt lx ly lh lc le n) lc = 0) &&             decide (F.z (F.missE i st t x y sx sy h r ra c hi mi sl lt lx ly lh lc le n) le = 0))))))) (
    cond (decide (F.z (F.trackE i st t x y sx sy h r ra c hi mi sl lt lx ly lh lc le) i = 0) &&     (decide (F.z (F.trackE i st t x y sx sy h r ra c hi mi sl lt lx ly lh lc le) (F.ch st) = 0) &&       (decide (F.z (F.trackE i st t x y sx sy h r ra c hi mi sl lt lx ly lh lc le) t = 0) &&         (decide (F.z (F.trackE i st t x y sx sy h r ra c hi mi sl lt lx ly lh lc le) x = 0) &&             decide (F.z (F.trackE i st t x y sx sy h r ra c hi mi sl lt lx ly lh lc le) y = 0) &&           (decide (F.z (F.trackE i st t x y sx sy h r ra c hi mi sl lt lx ly lh lc le) sx = 0) &&               decide (F.z (F.trackE i st t x y sx sy h r ra c hi mi sl lt lx ly lh lc le) sy = 0) &&             (decide (F.z (F.trackE i st t x y sx sy h r ra c hi mi sl lt lx ly lh lc le) h = 0) &&               (decide (F.z (F.trackE i st t x y sx sy h r ra c hi mi sl lt lx ly lh lc le) r = 0) &&                 (decide (F.z (F.trackE i st t x y sx sy h r ra c hi mi sl lt lx ly lh lc le) ra = 0) &&                   (decide (F.z (F.trackE i st t x y sx sy h r ra c hi mi sl lt lx ly lh lc le) c = 0) &&                     (decide (F.z (F.trackE i st t x y sx sy h r ra c hi mi sl lt lx ly lh lc le) hi = 0) &&                       decide (F.z (F.trackE i st t x y sx sy h r ra c hi mi sl lt lx ly lh lc le) 0 = 0)))))))))) &&   (decide (F.z (F.trackE i st t x y sx sy h r ra c hi mi sl lt lx ly lh lc le) sl = 0) &&     (decide (F.z (F.trackE i st t x y sx sy h r ra c hi mi sl lt lx ly lh lc le) lt = 0) &&       (decide (F.z (F.trackE i st t x y sx sy h r ra c hi mi sl lt lx ly lh lc le) lx = 0) &&           decide (F.z (F.trackE i st t x y sx sy h r ra c hi mi sl lt lx ly lh lc le) ly = 0) &&         (decide (F.z (F.trackE i st t x y sx sy h r ra c hi mi sl lt lx ly lh lc le) lh = 0) &&           (decide (F.z (F.trackE i st t x y sx sy h r ra c hi mi sl lt lx ly lh lc le) lc = 0) &&             decide (F.z (F.trackE i st t x y sx sy h r ra c hi mi sl lt lx ly lh lc le) le = 0))))))) (
     .ret (.fin (.c (.bool (!(decide (F.missE i st t x y sx sy h r ra c hi mi sl lt lx ly lh lc le n = 0) && decide (n < F.cm mi))))) [])) (
     .ret (.fin (.c (.bool false)) []))) (
    .ret (.fin (.c (.bool false)) []))) (
   .ret (.fin (.c (.bool false)) []))) (
  .ret (.fin (.c (.bool false)) []))) (
 cond (decide (st = 2)) (
  cond (!decide (F.trackE i st t x y sx sy h r ra c hi mi sl lt lx ly lh lc le = 0)) (
   .ret (.fin (.c (.bool false)) [])) (
   cond (!(decide (F.z (F.trackE i st t x y sx sy h r ra c hi mi sl lt lx ly lh lc le) i = i) &&       (decide (F.z (F.trackE i st t x y sx sy h r ra c hi mi sl lt lx ly lh lc le) (F.ch st) = 1) &&         (decide (F.z (F.trackE i st t x y sx sy h r ra c hi mi sl lt lx ly lh lc le) t = t) &&           (decide (F.z (F.trackE i st t x y sx sy h r ra c hi mi sl lt lx ly lh lc le) x = x) &&               decide (F.z (F.trackE i st t x y sx sy h r ra c hi mi sl lt lx ly lh lc le) y = y) &&             (decide (F.z (F.trackE i st t x y sx sy h r ra c hi mi sl lt lx ly lh lc le) sx = sx) &&                 decide (F.z (F.trackE i st t x y sx sy h r ra c hi mi sl lt lx ly lh lc le) sy = sy) &&               (decide (F.z (F.trackE i st t x y sx sy h r ra c hi mi sl lt lx ly lh lc le) h = h) &&                 (decide (F.z (F.trackE i st t x y sx sy h r ra c hi mi sl lt lx ly lh lc le) r = r) &&                   (decide (F.z (F.trackE i st t x y sx sy h r ra c hi mi sl lt lx ly lh lc le) ra = ra) &&                     (decide (F.z (F.trackE i st t x y sx sy h r ra c hi mi sl lt lx ly lh lc le) c = c) &&                       (decide (F.z (F.trackE i st t x y sx sy h r ra c hi mi sl lt lx ly lh lc le) hi = hi) &&                         decide (F.z (F.trackE i st t x y sx sy h r ra c hi mi sl lt lx ly lh lc le) 0 = 0)))))))))) &&     (decide (F.z (F.trackE i st t x y sx sy h r ra c hi mi sl lt lx ly lh lc le) sl = sl) &&       (decide (F.z (F.trackE i st t x y sx sy h r ra c hi mi sl lt lx ly lh lc le) lt = lt) &&         (decide (F.z (F.trackE i st t x y sx sy h r ra c hi mi sl lt lx ly lh lc le) lx = lx) &&             decide (F.z (F.trackE i st t x y sx sy h r ra c hi mi sl lt lx ly lh lc le) ly = ly) &&           (decide (F.z (F.trackE i st t x y sx sy h r ra c hi mi sl lt lx ly lh lc le) lh = lh) &&             (decide (F.z (F.trackE i st t x y sx sy h r ra c hi mi sl lt lx ly lh lc le) lc = lc) &&               decide (F.z (F.trackE i st t x y sx sy h r ra c hi mi sl lt lx ly lh lc le) le = le)))))))) (
    .ret (.fin (.c (.bool false)) [])) (
    cond (!F.inb n 0 100) (
     cond (decide (F.missE i st t x y sx sy h r ra c hi mi sl lt lx ly lh lc le n = 4)) (
      cond (decide (F.z (F.missE i st t x y sx sy h r ra c hi mi sl lt lx ly lh lc le n) i = 0) &&     (decide (F.z (F.missE i st t x y sx sy h r ra c hi mi sl lt lx ly lh lc le n) (F.cs st) = 0) &&       (decide (F.z (F.missE i st t x y sx sy h r ra c hi mi sl lt lx ly lh lc le n) t = 0) &&         (decide (F.z (F.missE i st t x y sx sy h r ra c hi mi sl lt lx ly lh lc le n) x = 0) &&             decide (F.z (F.missE i st t x y sx sy h r ra c hi mi sl lt lx ly lh lc le n) y = 0) &&           (decide (F.z (F.missE i st t x y sx sy h r ra c hi mi sl lt lx ly lh lc le n) sx = 0) &&               decide (F.z (F.missE i st t x y sx sy h r ra c hi mi sl lt lx ly lh lc le n) sy = 0) &&             (decide (F.z (F.missE i st t x y sx sy h r ra c hi mi sl lt lx ly lh lc le n) h = 0) &&               (decide (F.z (F.missE i st t x y sx sy h r ra c hi mi sl lt lx ly lh lc le n) r = 0) &&                 (decide (F.z (F.missE i st t x y sx sy h r ra c hi mi sl lt lx ly lh lc le n) ra = 0) &&                   (decide (F.z (F.missE i st t x y sx sy h r ra c hi mi sl lt lx ly lh lc le n) c = 0) &&                     (decide (F.z (F.missE i st t x y sx sy h r ra c hi mi sl lt lx ly lh lc le n) hi = 0) &&                       decide                         (F.z (F.missE i st t x y sx sy h r ra c hi mi sl lt lx ly lh lc le n) (F.cm mi) = 0)))))))))) &&   (decide (F.z (F.missE i st t x y sx sy h r ra c hi mi sl lt lx ly lh lc le n) sl = 0) &&     (decide (F.z (F.missE i st t x y sx sy h r ra c hi mi sl lt lx ly lh lc le n) lt = 0) &&       (decide (F.z (F.missE i st t x y sx sy h r ra c hi mi sl lt lx ly lh lc le n) lx = 0) &&           decide (F.z (F.missE i st t x y sx sy h r ra c hi mi sl lt lx ly lh lc le n) ly = 0) &&         (decide (F.z (F.missE i st t x y sx sy h r ra c hi mi sl lt lx ly lh lc le n) lh = 0) &&           (decide (F.z (F.missE i st t x y sx sy h r ra c hi mi sl lt lx ly lh lc le n) lc = 0) &&             decide (F.z (F.missE i st t x y sx sy h r ra c hi mi sl lt lx ly lh lc le n) le = 0))))))) (
       .ret (.fin (.c (.bool (!(decide (F.missE i st t x y sx sy h r ra c hi mi sl lt lx ly lh lc le n = 0) && decide (n < F.cm mi))))) [])) (
       .ret (.fin (.c (.bool false)) []))) (
      .ret (.fin (.c (.bool false)) []))) (
     cond (decide (100 < mi)) (
      cond (decide (st = 1)) (
       cond (decide (F.missE i st t x y sx sy h r ra c hi mi sl lt lx ly lh lc le n = 0)) (
        cond (decide (F.z (F.missE i st t x y sx sy h r ra c hi mi sl lt lx ly lh lc le n) i = i) &&     (decide (F.z (F.missE i st t x y sx sy h r ra c hi mi sl lt lx ly lh lc le n) (F.cs st) = 2) &&       (decide (F.z (F.missE i st t x y sx sy h r ra c hi mi sl lt lx ly lh lc le n) t = t) &&         (decide (F.z (F.missE i st t x y sx sy h r ra c hi mi sl lt lx ly lh lc le n) x = x) &&             decide (F.z (F.missE i st t x y sx sy h r ra c hi mi sl lt lx ly lh lc le n) y = y) &&           (decide (F.z (F.missE i st t x y sx sy h r ra c hi mi sl lt lx ly lh lc le n) sx = sx) &&               decide (F.z (F.missE i st t x y sx sy h r ra c hi mi sl lt lx ly lh lc le n) sy = sy) &&             (decide (F.z (F.missE i st t x y sx sy h r ra c hi mi sl lt lx ly lh lc le n) h = h) &&               (decide (F.z (F.missE i st t x y sx sy h r ra c hi mi sl lt lx ly lh lc le n) r = r) &&                 (decide (F.z (F.missE i st t x y sx sy h r ra c hi mi sl lt lx ly lh lc le n) ra = ra) &&                   (decide (F.z (F.missE i st t x y sx sy h r ra c hi mi sl lt lx ly lh lc le n) c = c) &&                     (decide (F.z (F.missE i st t x y sx sy h r ra c hi mi sl lt lx ly lh lc le n) hi = hi) &&                       decide                         (F.z (F.missE i st t x y sx sy h r ra c hi mi sl lt lx ly lh lc le n) (F.cm mi) =                           101)))))))))) &&   (decide (F.z (F.missE i st t x y sx sy h r ra c hi mi sl lt lx ly lh lc le n) sl = sl) &&     (decide (F.z (F.missE i st t x y sx sy h r ra c hi mi sl lt lx ly lh lc le n) lt = lt) &&       (decide (F.z (F.missE i st t x y sx sy h r ra c hi mi sl lt lx ly lh lc le n) lx = lx) &&           decide (F.z (F.missE i st t x y sx sy h r ra c hi mi sl lt lx ly lh lc le n) ly = ly) &&         (decide (F.z (F.missE i st t x y sx sy h r ra c hi mi sl lt lx ly lh lc le n) lh = lh) &&           (decide (F.z (F.missE i st t x y sx sy h r ra c hi mi sl lt lx ly lh lc le n) lc = lc) &&             decide (F.z (F.missE i st t x y sx sy h r ra c hi mi sl lt lx ly lh lc le n) le = le))))))) (
         .ret (.fin (.c (.bool ((decide (F.missE i st t x y sx sy h r ra c hi mi sl lt lx ly lh lc le n = 0) && decide (n < F.cm mi)) ==   decide (n < 101)))) [])) (
         .ret (.fin (.c (.bool false)) []))) (
        .ret (.fin (.c (.bool false)) []))) (
       cond (decide (F.missE i st t x y sx sy h r ra c hi mi sl lt lx ly lh lc le n = 0)) (
        cond (decide (F.z (F.missE i st t x y sx sy h r ra c hi mi sl lt lx ly lh lc le n) i = i) &&     (decide (F.z (F.missE i st t x y sx sy h r ra c hi mi sl lt lx ly lh lc le n) (F.cs st) = st) &&       (decide (F.z (F.missE i st t x y sx sy h r ra c hi mi sl lt lx ly lh lc le n) t = t) &&         (decide (F.z (F.missE i st t x y sx sy h r ra c hi mi sl lt lx ly lh lc le n) x = x) &&             decide (F.z (F.missE i st t x y sx sy h r ra c hi mi sl lt lx ly lh lc le n) y = y) &&           (decide (F.z (F.missE i st t x y sx sy h r ra c hi mi sl lt lx ly lh lc le n) sx = sx) &&               decide (F.z (F.missE i st t x y sx sy h r ra c hi mi sl lt lx ly lh lc le n) sy = sy) &&             (decide (F.z (F.missE i st t x y sx sy h r ra c hi mi sl lt lx ly lh lc le n) h = h) &&               (decide (F.z (F.missE i st t x y sx sy h r ra c hi mi sl lt lx ly lh lc le n) r = r) &&                 (decide (F.z (F.missE i st t x y sx sy h r ra c hi mi sl lt lx ly lh lc le n) ra = ra) &&                   (decide (F.z (F.missE i st t x y sx sy h r ra c hi mi sl lt lx ly lh lc le n) c = c) &&                     (decide (F.z (F.missE i st t x y sx sy h r ra c hi mi sl lt lx ly lh lc le n) hi = hi) &&                       decide                         (F.z (F.missE i st t x y sx sy h r ra c hi mi sl lt lx ly lh lc le n) (F.cm mi) =                           101)))))))))) &&   (decide (F.z (F.missE i st t x y sx sy h r ra c hi mi sl lt lx ly lh lc le n) sl = sl) &&     (decide (F.z (F.missE i st t x y sx sy h r ra c hi mi sl lt lx ly lh lc le n) lt = lt) &&       (decide (F.z (F.missE i st t x y sx sy h r ra c hi mi sl lt lx ly lh lc le n) lx = lx) &&           decide (F.z (F.missE i st t x y sx sy h r ra c hi mi sl lt lx ly lh lc le n) ly = ly) &&         (decide (F.z (F.missE i st t x y sx sy h r ra c hi mi sl lt lx ly lh lc le n) lh = lh) &&           (decide (F.z (F.missE i st t x y sx sy h r ra c hi mi sl lt lx ly lh lc le n) lc = lc) &&             decide (F.z (F.missE i st t x y sx sy h r ra c hi mi sl lt lx ly lh lc le n) le = le))))))) (
         .ret (.fin (.c (.bool ((decide (F.missE i st t x y sx sy h r ra c hi mi sl lt lx ly lh lc le n = 0) && decide (n < F.cm mi)) ==   decide (n < 101)))) [])) (
         .ret (.fin (.c (.bool false)) []))) (
        .ret (.fin (.c (.bool false)) [])))) (
      cond (decide (st = 1)) (
       cond (decide (F.missE i st t x y sx sy h r ra c hi mi sl lt lx ly lh lc le n = 0)) (
        cond (decide (F.z (F.missE i st t x y sx sy h r ra c hi mi sl lt lx ly lh lc le n) i = i) &&     (decide (F.z (F.missE i st t x y sx sy h r ra c hi mi sl lt lx ly lh lc le n) (F.cs st) = 2) &&       (decide (F.z (F.missE i st t x y sx sy h r ra c hi mi sl lt lx ly lh lc le n) t = t) &&         (decide (F.z (F.missE i st t x y sx sy h r ra c hi mi sl lt lx ly lh lc le n) x = x) &&             decide (F.z (F.missE i st t x y sx sy h r ra c hi mi sl lt lx ly lh lc le n) y = y) &&           (decide (F.z (F.missE i st t x y sx sy h r ra c hi mi sl lt lx ly lh lc le n) sx = sx) &&               decide (F.z (F.missE i st t x y sx sy h r ra c hi mi sl lt lx ly lh lc le n) sy = sy) &&             (decide (F.z (F.missE i st t x y sx sy h r ra c hi mi sl lt lx ly lh lc le n) h = h) &&               (decide (F.z (F.missE i st t x y sx sy h r ra c hi mi sl lt lx ly lh lc le n) r = r) &&                 (decide (F.z (F.missE i st t x y sx sy h r ra c hi mi sl lt lx ly lh lc le n) ra = ra) &&                   (decide (F.z (F.missE i st t x y sx sy h r ra c hi mi sl lt lx ly lh lc le n) c = c) &&                     (decide (F.z (F.missE i st t x y sx sy h r ra c hi mi sl lt lx ly lh lc le n) hi = hi) &&                       decide                         (F.z (F.missE i st t x y sx sy h r ra c hi mi sl lt lx ly lh lc le n) (F.cm mi) =                           min (IntKind.wrap IntKind.i64 (mi + 1)) 101)))))))))) &&   (decide (F.z (F.missE i st t x y sx sy h r ra c hi mi sl lt lx ly lh lc le n) sl = sl) &&     (decide (F.z (F.missE i st t x y sx sy h r ra c hi mi sl lt lx ly lh lc le n) lt = lt) &&       (decide (F.z (F.missE i st t x y sx sy h r ra c hi mi sl lt lx ly lh lc le n) lx = lx) &&           decide (F.z (F.missE i st t x y sx sy h r ra c hi mi sl lt lx ly lh lc le n) ly = ly) &&         (decide (F.z (F.missE i st t x y sx sy h r ra c hi mi sl lt lx ly lh lc le n) lh = lh) &&           (decide (F.z (F.missE i st t x y sx sy h r ra c hi mi sl lt lx ly lh lc le n) lc = lc) &&             decide (F.z (F.missE i st t x y sx sy h r ra c hi mi sl lt lx ly lh lc le n) le = le))))))) (
         .ret (.fin (.c (.bool ((decide (F.missE i st t x y sx sy h r ra c hi mi sl lt lx ly lh lc le n = 0) && decide (n < F.cm mi)) ==   decide (n < min (IntKind.wrap IntKind.i64 (mi + 1)) 101)))) [])) (
         .ret (.fin (.c (.bool false)) []))) (
        .ret (.fin (.c (.bool false)) []))) (
       cond (decide (F.missE i st t x y sx sy h r ra c hi mi sl lt lx ly lh lc le n = 0)) (
        cond (decide (F.z (F.missE i st t x y sx sy h r ra c hi mi sl lt lx ly lh lc le n) i = i) &&     (decide (F.z (F.missE i st t x y sx sy h r ra c hi mi sl lt lx ly lh lc le n) (F.cs st) = st) &&       (decide (F.z (F.missE i st t x y sx sy h r ra c hi mi sl lt lx ly lh lc le n) t = t) &&         (decide (F.z (F.missE i st t x y sx sy h r ra c hi mi sl lt lx ly lh lc le n) x = x) &&             decide (F.z (F.missE i st t x y sx sy h r ra c hi mi sl lt lx ly lh lc le n) y = y) &&           (decide (F.z (F.missE i st t x y sx sy h r ra c hi mi sl lt lx ly lh lc le n) sx = sx) &&               decide (F.z (F.missE i st t x y sx sy h r ra c hi mi sl lt lx ly lh lc le n) sy = sy) &&             (decide (F.z (F.missE i st t x y sx sy h r ra c hi mi sl lt lx ly lh lc le n) h = h) &&               (decide (F.z (F.missE i st t x y sx sy h r ra c hi mi sl lt lx ly lh lc le n) r = r) &&                 (decide (F.z (F.missE i st t x y sx sy h r ra c hi mi sl lt lx ly lh lc le n) ra = ra) &&                   (decide (F.z (F.missE i st t x y sx sy h r ra c hi mi sl lt lx ly lh lc le n) c = c) &&                     (decide (F.z (F.missE i st t x y sx sy h r ra c hi mi sl lt lx ly lh lc le n) hi = hi) &&                       decide                         (F.z (F.missE i st t x y sx sy h r ra c hi mi sl lt lx ly lh lc le n) (F.cm mi) =                           min (IntKind.wrap IntKind.i64 (mi + 1)) 101)))))))))) &&   (decide (F.z (F.missE i st t x y sx sy h r ra c hi mi sl lt lx ly lh lc le n) sl = sl) &&     (decide (F.z (F.missE i st t x y sx sy h r ra c hi mi sl lt lx ly lh lc le n) lt = lt) &&       (decide (F.z (F.missE i st t x y sx sy h r ra c hi mi sl lt lx ly lh lc le n) lx = lx) &&           decide (F.z (F.missE i st t x y sx sy h r ra c hi mi sl lt lx ly lh lc le n) ly = ly) &&         (decide (F.z (F.missE i st t x y sx sy h r ra c hi mi sl lt lx ly lh lc le n) lh = lh) &&           (decide (F.z (F.missE i st t x y sx sy h r ra c hi mi sl lt lx ly lh lc le n) lc = lc) &&             decide (F.z (F.missE i st t x y sx sy h r ra c hi mi sl lt lx ly lh lc le n) le = le))))))) (
         .ret (.fin (.c (.bool ((decide (F.missE i st t x y sx sy h r ra c hi mi sl lt lx ly lh lc le n = 0) && decide (n < F.cm mi)) ==   decide (n < min (IntKind.wrap IntKind.i64 (mi + 1)) 101)))) [])) (
         .ret (.fin (.c (.bool false)) []))) (
        .ret (.fin (.c (.bool false)) [])))))))) (
  cond (!decide (F.trackE i st t x y sx sy h r ra c hi mi sl lt lx ly lh lc le = 0)) (
   .ret (.fin (.c (.bool false)) [])) (
   cond (!(decide (F.z (F.trackE i st t x y sx sy h r ra c hi mi sl lt lx ly lh lc le) i = i) &&       (decide (F.z (F.trackE i st t x y sx sy h r ra c hi mi sl lt lx ly lh lc le) (F.ch st) = st) &&         (decide (F.z (F.trackE i st t x y sx sy h r ra c hi mi sl lt lx ly lh lc le) t = t) &&           (decide (F.z (F.trackE i st t x y sx sy h r ra c hi mi sl lt lx ly lh lc le) x = x) &&               decide (F.z (F.trackE i st t x y sx sy h r ra c hi mi sl lt lx ly lh lc le) y = y) &&             (decide (F.z (F.trackE i st t x y sx sy h r ra c hi mi sl lt lx ly lh lc le) sx = sx) &&                 decide (F.z (F.trackE i st t x y sx sy h r ra c hi mi sl lt lx ly lh lc le) sy = sy) &&               (decide (F.z (F.trackE i st t x y sx sy h r ra c hi mi sl lt lx ly lh lc le) h = h) &&                 (decide (F.z (F.trackE i st t x y sx sy h r ra c hi mi sl lt lx ly lh lc le) r = r) &&                   (decide (F.z (F.trackE i st t x y sx sy h r ra c hi mi sl lt lx ly lh lc le) ra = ra) &&                     (decide (F.z (F.trackE i st t x y sx sy h r ra c hi mi sl lt lx ly lh lc le) c = c) &&                       (decide (F.z (F.trackE i st t x y sx sy h r ra c hi mi sl lt lx ly lh lc le) hi = hi) &&                         decide (F.z (F.trackE i st t x y sx sy h r ra c hi mi sl lt lx ly lh lc le) 0 = 0)))))))))) &&     (decide (F.z (F.trackE i st t x y sx sy h r ra c hi mi sl lt lx ly lh lc le) sl = sl) &&       (decide (F.z (F.trackE i st t x y sx sy h r ra c hi mi sl lt lx ly lh lc le) lt = lt) &&         (decide (F.z (F.trackE i st t x y sx sy h r ra c hi mi sl lt lx ly lh lc le) lx = lx) &&             decide (F.z (F.trackE i st t x y sx sy h r ra c hi mi sl lt lx ly lh lc le) ly = ly) &&           (decide (F.z (F.trackE i st t x y sx sy h r ra c hi mi sl lt lx ly lh lc le) lh = lh) &&             (decide (F.z (F.trackE i st t x y sx sy h r ra c hi mi sl lt lx ly lh lc le) lc = lc) &&               decide (F.z (F.trackE i st t x y sx sy h r ra c hi mi sl lt lx ly lh lc le) le = le)))))))) (
    .ret (.fin (.c (.bool false)) [])) (
    cond (!F.inb n 0 100) (
     cond (decide (F.missE i st t x y sx sy h r ra c hi mi sl lt lx ly lh lc le n = 4)) (
      cond (decide (F.z (F.missE i st t x y sx sy h r ra c hi mi sl lt lx ly lh lc le n) i = 0) &&     (decide (F.z (F.missE i st t x y sx sy h r ra c hi mi sl lt lx ly lh lc le n) (F.cs st) = 0) &&       (decide (F.z (F.missE i st t x y sx sy h r ra c hi mi sl lt lx ly lh lc le n) t = 0) &&         (decide (F.z (F.missE i st t x y sx sy h r ra c hi mi sl lt lx ly lh lc le n) x = 0) &&             decide (F.z (F.missE i st t x y sx sy h r ra c hi mi sl lt lx ly lh lc le n) y = 0) &&           (decide (F.z (F.missE i st t x y sx sy h r ra c hi mi sl lt lx ly lh lc le n) sx = 0) &&               decide (F.z (F.missE i st t x y sx sy h r ra c hi mi sl lt lx ly lh lc le n) sy = 0) &&             (decide (F.z (F.missE i st t x y sx sy h r ra c hi mi sl lt lx ly lh lc le n) h = 0) &&               (decide (F.z (F.missE i st t x y sx sy h r ra c hi mi sl lt lx ly lh lc le n) r = 0) &&                 (decide (F.z (F.missE i st t x y sx sy h r ra c hi mi sl lt lx ly lh lc le n) ra = 0) &&                   (decide (F.z (F.missE i st t x y sx sy h r ra c hi mi sl lt lx ly lh lc le n) c = 0) &&                     (decide (F.z (F.missE i st t x y sx sy h r ra c hi mi sl lt lx ly lh lc le n) hi = 0) &&                       decide                         (F.z (F.missE i st t x y sx sy h r ra c hi mi sl lt lx ly lh lc le n) (F.cm mi) = 0)))))))))) &&   (decide (F.z (F.missE i st t x y sx sy h r ra c hi mi sl lt lx ly lh lc le n) sl = 0) &&     (decide (F.z (F.missE i st t x y sx sy h r ra c hi mi sl lt lx ly lh lc le n) lt = 0) &&       (decide (F.z (F.missE i st t x y sx sy h r ra c hi mi sl lt lx ly lh lc le n) lx = 0) &&           decide (F.z (F.missE i st t x y sx sy h r ra c hi mi sl lt lx ly lh lc le n) ly = 0) &&         (decide (F.z (F.missE i st t x y sx sy h r ra c hi mi sl lt lx ly lh lc le n) lh = 0) &&           (decide (F.z (F.missE i st t x y sx sy h r ra c hi mi sl lt lx ly lh lc le n) lc = 0) &&             decide (F.z (F.missE i st t x y sx sy h r ra c hi mi sl lt lx ly lh lc le n) le = 0))))))) (
       .ret (.fin (.c (.bool (!(decide (F.missE i st t x y sx sy h r ra c hi mi sl lt lx ly lh lc le n = 0) && decide (n < F.cm mi))))) [])) (
       .ret (.fin (.c (.bool false)) []))) (
      .ret (.fin (.c (.bool false)) []))) (
     cond (decide (100 < mi)) (
      cond (decide (st = 1)) (
       cond (decide (F.missE i st t x y sx sy h r ra c hi mi sl lt lx ly lh lc le n = 0)) (
        cond (decide (F.z (F.missE i st t x y sx sy h r ra c hi mi sl lt lx ly lh lc le n) i = i) &&     (decide (F.z (F.missE i st t x y sx sy h r ra c hi mi sl lt lx ly lh lc le n) (F.cs st) = 2) &&       (decide (F.z (F.missE i st t x y sx sy h r ra c hi mi sl lt lx ly lh lc le n) t = t) &&         (decide (F.z (F.missE i st t x y sx sy h r ra c hi mi sl lt lx ly lh lc le n) x = x) &&             decide (F.z (F.missE i st t x y sx sy h r ra c hi mi sl lt lx ly lh lc le n) y = y) &&           (decide (F.z (F.missE i st t x y sx sy h r ra c hi mi sl lt lx ly lh lc le n) sx = sx) &&               decide (F.z (F.missE i st t x y sx sy h r ra c hi mi sl lt lx ly lh lc le n) sy = sy) &&             (decide (F.z (F.missE i st t x y sx sy h r ra c hi mi sl lt lx ly lh lc le n) h = h) &&               (decide (F.z (F.missE i st t x y sx sy h r ra c hi mi sl lt lx ly lh lc le n) r = r) &&                 (decide (F.z (F.missE i st t x y sx sy h r ra c hi mi sl lt lx ly lh lc le n) ra = ra) &&                   (decide (F.z (F.missE i st t x y sx sy h r ra c hi mi sl lt lx ly lh lc le n) c = c) &&                     (decide (F.z (F.missE i st t x y sx sy h r ra c hi mi sl lt lx ly lh lc le n) hi = hi) &&                       decide                         (F.z (F.missE i st t x y sx sy h r ra c hi mi sl lt lx ly lh lc le n) (F.cm mi) =                           101)))))))))) &&   (decide (F.z (F.missE i st t x y sx sy h r ra c hi mi sl lt lx ly lh lc le n) sl = sl) &&     (decide (F.z (F.missE i st t x y sx sy h r ra c hi mi sl lt lx ly lh lc le n) lt = lt) &&       (decide (F.z (F.missE i st t x y sx sy h r ra c hi mi sl lt lx ly lh lc le n) lx = lx) &&           decide (F.z (F.missE i st t x y sx sy h r ra c hi mi sl lt lx ly lh lc le n) ly = ly) &&         (decide (F.z (F.missE i st t x y sx sy h r ra c hi mi sl lt lx ly lh lc le n) lh = lh) &&           (decide (F.z (F.missE i st t x y sx sy h r ra c hi mi sl lt lx ly lh lc le n) lc = lc) &&             decide (F.z (F.missE i st t x y sx sy h r ra c hi mi sl lt lx ly lh lc le n) le = le))))))) (
         .ret (.fin (.c (.bool ((decide (F.missE i st t x y sx sy h r ra c hi mi sl lt lx ly lh lc le n = 0) && decide (n < F.cm mi)) ==   decide (n < 101)))) [])) (
         .ret (.fin (.c (.bool false)) []))) (
        .ret (.fin (.c (.bool false)) []))) (
       cond (decide (F.missE i st t x y sx sy h r ra c hi mi sl lt lx ly lh lc le n = 0)) (
        cond (decide (F.z (F.missE i st t x y sx sy h r ra c hi mi sl lt lx ly lh lc le n) i = i) &&     (decide (F.z (F.missE i st t x y sx sy h r ra c hi mi sl lt lx ly lh lc le n) (F.cs st) = st) &&       (decide (F.z (F.missE i st t x y sx sy h r ra c hi mi sl lt lx ly lh lc le n) t = t) &&         (decide (F.z (F.missE i st t x y sx sy h r ra c hi mi sl lt lx ly lh lc le n) x = x) &&             decide (F.z (F.missE i st t x y sx sy h r ra c hi mi sl lt lx ly lh lc le n) y = y) &&           (decide (F.z (F.missE i st t x y sx sy h r ra c hi mi sl lt lx ly lh lc le n) sx = sx) &&               decide (F.z (F.missE i st t x y sx sy h r ra c hi mi sl lt lx ly lh lc le n) sy = sy) &&             (decide (F.z (F.missE i st t x y sx sy h r ra c hi mi sl lt lx ly lh lc le n) h = h) &&               (decide (F.z (F.missE i st t x y sx sy h r ra c hi mi sl lt lx ly lh lc le n) r = r) &&                 (decide (F.z (F.missE i st t x y sx sy h r ra c hi mi sl lt lx ly lh lc le n) ra = ra) &&                   (decide (F.z (F.missE i st t x y sx sy h r ra c hi mi sl lt lx ly lh lc le n) c = c) &&                     (decide (F.z (F.missE i st t x y sx sy h r ra c hi mi sl lt lx ly lh lc le n) hi = hi) &&                       decide                         (F.z (F.missE i st t x y sx sy h r ra c hi mi sl lt lx ly lh lc le n) (F.cm mi) =                           101)))))))))) &&   (decide (F.z (F.missE i st t x y sx sy h r ra c hi mi sl lt lx ly lh lc le n) sl = sl) &&     (decide (F.z (F.missE i st t x y sx sy h r ra c hi mi sl lt lx ly lh lc le n) lt = lt) &&       (decide (F.z (F.missE i st t x y sx sy h r ra c hi mi sl lt lx ly lh lc le n) lx = lx) &&           decide (F.z (F.missE i st t x y sx sy h r ra c hi mi sl lt lx ly lh lc le n) ly = ly) &&         (decide (F.z (F.missE i st t x y sx sy h r ra c hi mi sl lt lx ly lh lc le n) lh = lh) &&           (decide (F.z (F.missE i st t x y sx sy h r ra c hi mi sl lt lx ly lh lc le n) lc = lc) &&             decide (F.z (F.missE i st t x y sx sy h r ra c hi mi sl lt lx ly lh lc le n) le = le))))))) (
         .ret (.fin (.c (.bool ((decide (F.missE i st t x y sx sy h r ra c hi mi sl lt lx ly lh lc le n = 0) && decide (n < F.cm mi)) ==   decide (n < 101)))) [])) (
         .ret (.fin (.c (.bool false)) []))) (
        .ret (.fin (.c (.bool false)) [])))) (
      cond (decide (st = 1)) (
       cond (decide (F.missE i st t x y sx sy h r ra c hi mi sl lt lx ly lh lc le n = 0)) (
        cond (decide (F.z (F.missE i st t x y sx sy h r ra c hi mi sl lt lx ly lh lc le n) i = i) &&     (decide (F.z (F.missE i st t x y sx sy h r ra c hi mi sl lt lx ly lh lc le n) (F.cs st) = 2) &&       (decide (F.z (F.missE i st t x y sx sy h r ra c hi mi sl lt lx ly lh lc le n) t = t) &&         (decide (F.z (F.missE i st t x y sx sy h r ra c hi mi sl lt lx ly lh lc le n) x = x) &&             decide (F.z (F.missE i st t x y sx sy h r ra c hi mi sl lt lx ly lh lc le n) y = y) &&           (decide (F.z (F.missE i st t x y sx sy h r ra c hi mi sl lt lx ly lh lc le n) sx = sx) &&               decide (F.z (F.missE i st t x y sx sy h r ra c hi mi sl lt lx ly lh lc le n) sy = sy) &&             (decide (F.z (F.missE i st t x y sx sy h r ra c hi mi sl lt lx ly lh lc le n) h = h) &&               (decide (F.z (F.missE i st t x y sx sy h r ra c hi mi sl lt lx ly lh lc le n) r = r) &&                 (decide (F.z (F.missE i st t x y sx sy h r ra c hi mi sl lt lx ly lh lc le n) ra = ra) &&                   (decide (F.z (F.missE i st t x y sx sy h r ra c hi mi sl lt lx ly lh lc le n) c = c) &&                     (decide (F.z (F.missE i st t x y sx sy h r ra c hi mi sl lt lx ly lh lc le n) hi = hi) &&                       decide                         (F.z (F.missE i st t x y sx sy h r ra c hi mi sl lt lx ly lh lc le n) (F.cm mi) =                           min (IntKind.wrap IntKind.i64 (mi + 1)) 101)))))))))) &&   (decide (F.z (F.missE i st t x y sx sy h r ra c hi mi sl lt lx ly lh lc le n) sl = sl) &&     (decide (F.z (F.missE i st t x y sx sy h r ra c hi mi sl lt lx ly lh lc le n) lt = lt) &&       (decide (F.z (F.missE i st t x y sx sy h r ra c hi mi sl lt lx ly lh lc le n) lx = lx) &&           decide (F.z (F.missE i st t x y sx sy h r ra c hi mi sl lt lx ly lh lc le n) ly = ly) &&         (decide (F.z (F.missE i st t x y sx sy h r ra c hi mi sl lt lx ly lh lc le n) lh = lh) &&           (decide (F.z (F.missE i st t x y sx sy h r ra c hi mi sl lt lx ly lh lc le n) lc = lc) &&             decide (F.z (F.missE i st t x y sx sy h r ra c hi mi sl lt lx ly lh lc le n) le = le))))))) (
         .ret (.fin (.c (.bool ((decide (F.missE i st t x y sx sy h r ra c hi mi sl lt lx ly lh lc le n = 0) && decide (n < F.cm mi)) ==   decide (n < min (IntKind.wrap IntKind.i64 (mi + 1)) 101)))) [])) (
         .ret (.fin (.c (.bool false)) []))) (
        .ret (.fin (.c (.bool false)) []))) (
       cond (decide (F.missE i st t x y sx sy h r ra c hi mi sl lt lx ly lh lc le n = 0)) (
        cond (decide (F.z (F.missE i st t x y sx sy h r ra c hi mi sl lt lx ly lh lc le n) i = i) &&     (decide (F.z (F.missE i st t x y sx sy h r ra c hi mi sl lt lx ly lh lc le n) (F.cs st) = st) &&       (decide (F.z (F.missE i st t x y sx sy h r ra c hi mi sl lt lx ly lh lc le n) t = t) &&         (decide (F.z (F.missE i st t x y sx sy h r ra c hi mi sl lt lx ly lh lc le n) x = x) &&             decide (F.z (F.missE i st t x y sx sy h r ra c hi mi sl lt lx ly lh lc le n) y = y) &&           (decide (F.z (F.missE i st t x y sx sy h r ra c hi mi sl lt lx ly lh lc le n) sx = sx) &&               decide (F.z (F.missE i st t x y sx sy h r ra c hi mi sl lt lx ly lh lc le n) sy = sy) &&             (decide (F.z (F.missE i st t x y sx sy h r ra c hi mi sl lt lx ly lh lc le n) h = h) &&               (decide (F.z (F.missE i st t x y sx sy h r ra c hi mi sl lt lx ly lh lc le n) r = r) &&                 (decide (F.z (F.missE i st t x y sx sy h r ra c hi mi sl lt lx ly lh lc le n) ra = ra) &&                   (decide (F.z (F.missE i st t x y sx sy h r ra c hi mi sl lt lx ly lh lc le n) c = c) &&                     (decide (F.z (F.missE i st t x y sx sy h r ra c hi mi sl lt lx ly lh lc le n) hi = hi) &&                       decide                         (F.z (F.missE i st t x y sx sy h r ra c hi mi sl lt lx ly lh lc le n) (F.cm mi) =                           min (IntKind.wrap IntKind.i64 (mi + 1)) 101)))))))))) &&   (decide (F.z (F.missE i st t x y sx sy h r ra c hi mi sl lt lx ly lh lc le n) sl = sl) &&     (decide (F.z (F.missE i st t x y sx sy h r ra c hi mi sl lt lx ly lh lc le n) lt = lt) &&       (decide (F.z (F.missE i st t x y sx sy h r ra c hi mi sl lt lx ly lh lc le n) lx = lx) &&           decide (F.z (F.missE i st t x y sx sy h r ra c hi mi sl lt lx ly lh lc le n) ly = ly) &&         (decide (F.z (F.missE i st t x y sx sy h r ra c hi mi sl lt lx ly lh lc le n) lh = lh) &&           (decide (F.z (F.missE i st t x y sx sy h r ra c hi mi sl lt lx ly lh lc le n) lc = lc) &&             decide (F.z (F.missE i st t x y sx sy h r ra c hi mi sl lt lx ly lh lc le n) le = le))))))) (
         .ret (.fin (.c (.bool ((decide (F.missE i st t x y sx sy h r ra c hi mi sl lt lx ly lh lc le n = 0) && decide (n < F.cm mi)) ==   decide (n < min (IntKind.wrap IntKind.i64 (mi + 1)) 101)))) [])) (
         .ret (.fin (.c (.bool false)) []))) (
        .ret (.fin (.c (.bool false)) []))))))))) := by kernel_rfl

theorem claw_sound : Sound Try.prog cod 3 s_claw := sound_flat (cfg := (mkW L_hit)) L_hit_ok mixed Try.func3 rfl rfl _ 400 fun args H r news hg => by
  unfold s_claw at hg
  split at hg
  · split at hg
    · rename_i _ i st t x y sx sy h r ra c hi mi sl lt lx ly lh lc le n hrd
      have hargs := rd_spec hrd
      simp only [List.map, wr1, ints, List.tail] at hargs
      subst hargs
      clear hrd
      rw [claw_tree]
      simp only [T.gives, T.wp, Prod.mk.injEq] at hg
      obtain ⟨rfl, rfl⟩ := hg
      simp only [T.wp, T.wp_cond, Fin.fin.injEq, SV.c.injEq, SV.tup.injEq, SV.agg.injEq, List.cons.injEq, Cell.bool.injEq, Cell.int.injEq, and_true, true_and, decide_eq_true_eq]
      have hb := trackE_zero (i := i) (st := st) (t := t) (x := x) (y := y) (sx := sx) (sy := sy) (h := h) (r := r) (ra := ra) (c := c) (hi := hi) (mi := mi) (sl := sl) (lt := lt) (lx := lx) (ly := ly) (lh := lh) (lc := lc) (le := le)
      have hm : F.missE i st t x y sx sy h r ra c hi mi sl lt lx ly lh lc le n = if F.trackE i st t x y sx sy h r ra c hi mi sl lt lx ly lh lc le = 0 then (if F.inb n 0 100 = true then 0 else 4) else F.trackE i st t x y sx sy h r ra c hi mi sl lt lx ly lh lc le := rfl
      generalize F.trackE i st t x y sx sy h r ra c hi mi sl lt lx ly lh lc le = E at *
      generalize F.missE i st t x y sx sy h r ra c hi mi sl lt lx ly lh lc le n = M at *
      by_cases he : E = 0
      · have hb := hb he
        by_cases hn : F.inb n 0 100 = true
        · by_cases h1 : st = 2
          · by_cases h3 : 100 < mi
            · have h4 : ¬ mi < 101 := by omega
              simp [he, hm, hn, F.z, F.cs, F.ch, F.cm, h1, h3, h4]
            · have h4 : mi < 101 := by omega
              have hw : IntKind.wrap .i64 (mi + 1) = mi + 1 := wrap_ok (by unfold i64ok; omega)
              have hw2 : min (mi + 1) 101 = mi + 1 := by omega
              simp [he, hm, hn, F.z, F.cs, F.ch, F.cm, h1, h3, h4, hw, hw2]
          · by_cases h2 : st = 1
            · by_cases h3 : 100 < mi
              · have h4 : ¬ mi < 101 := by omega
                simp [he, hm, hn, F.z, F.cs, F.ch, F.cm, h1, h2, h3, h4]
              · have h4 : mi < 101 := by omega
                have hw : IntKind.wrap .i64 (mi + 1) = mi + 1 := wrap_ok (by unfold i64ok; omega)
                have hw2 : min (mi + 1) 101 = mi + 1 := by omega
                simp [he, hm, hn, F.z, F.cs, F.ch, F.cm, h1, h2, h3, h4, hw, hw2]
            · by_cases h3 : 100 < mi
              · have h4 : ¬ mi < 101 := by omega
                simp [he, hm, hn, F.z, F.cs, F.ch, F.cm, h1, h2, h3, h4]
              · have h4 : mi < 101 := by omega
                have hw : IntKind.wrap .i64 (mi + 1) = mi + 1 := wrap_ok (by unfold i64ok; omega)
                have hw2 : min (mi + 1) 101 = mi + 1 := by omega
                simp [he, hm, hn, F.z, F.cs, F.ch, F.cm, h1, h2, h3, h4, hw, hw2]
        · by_cases h1 : st = 2 <;> simp [he, hm, hn, F.z, F.ch, h1]
      · simp [he, hm, F.z]
    · exact hg.elim
  · exact hg.elim

noncomputable def L_claw : Sums cod := (3, .p s_claw) :: L_hit
noncomputable def C_claw : Cfg cod := mkC L_claw

theorem L_claw_ok : Snd Try.prog cod L_claw := .cons claw_sound L_hit_ok

end
end Go.Proofs.Ythljcjighomgkaa
