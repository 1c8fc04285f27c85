/- Part of a claim: lemmas on the way to its theorem; each states its own conditions. -/
import Derived.Test.YtffcfbamcaoidaaRe
namespace Go.Proofs.Ytffcfbamcaoidaa
open Sym Go.RowKit
noncomputable section
set_option maxRecDepth 100000
set_option maxHeartbeats 4000000



def cuts_orders : Cuts := [(100004, [2, 3], 30)]
def cuts_orders_r4 : Cuts := []

theorem orders_t0 (l : List (List UInt8 × Int × Int × Int)) (l_t : Bool) (g0 g1 g2 g3 g4 g5 g6 g7 g8 g9 g10 g11 g12 g13 g14 g15 : Int) : symF C_os cuts_orders Try.f9.results.toList 1 400 [.code (codeOf Try.f9)] ⟨argsS Try.f9 [.c (.slc 0 0 (List.length l) l_t), .agg [.int .i64 g0, .int .i64 g1, .int .i64 g2, .int .i64 g3, .int .i64 g4, .int .i64 g5, .int .i64 g6, .int .i64 g7, .int .i64 g8, .int .i64 g9, .int .i64 g10, .int .i64 g11, .int .i64 g12, .int .i64 g13, .int .i64 g14, .int .i64 g15]], ([.inp 7 l] : Heap cod)⟩ =
.need (((0 : Int) ≤ min (Int.ofNat (List.length l)) 5 ∧ min (Int.ofNat (List.length l)) 5 ≤ Int.ofNat (List.length l))) (
.ret (.cut (regAt Try.f9 4) ⟨tmG 52 [(2, .c (.ptr 1 0 0)), (0, .c (.ptr 2 0 0))], [.inp 7 l, .blk [.slc 0 0 (Int.toNat (min (Int.ofNat (List.length l)) 5)) false] 42, .arr 0 ([g0, g1, g2, g3, g4, g5, g6, g7, g8, g9, g10, g11, g12, g13, g14, g15]) 43]⟩)) := by kernel_rfl


noncomputable def st_orders_r4 (l : List (List UInt8 × Int × Int × Int)) (l_t : Bool) (g0 g1 g2 g3 g4 g5 g6 g7 g8 g9 g10 g11 g12 g13 g14 g15 : Int) (x : List (List UInt8 × Int × Int × Int)) (n : Nat) : St cod := ⟨tmG 52 [(2, .c (.ptr 1 0 0)), (0, .c (.ptr 2 0 0))], ([.inp 7 x, .blk [.slc 0 0 n false] 42, .arr 0 [g0, g1, g2, g3, g4, g5, g6, g7, g8, g9, g10, g11, g12, g13, g14, g15] 43] : Heap cod)⟩


theorem orders_tr4 (l : List (List UInt8 × Int × Int × Int)) (l_t : Bool) (g0 g1 g2 g3 g4 g5 g6 g7 g8 g9 g10 g11 g12 g13 g14 g15 : Int) (x : List (List UInt8 × Int × Int × Int)) (n : Nat) : symF C_os cuts_orders_r4 Try.f9.results.toList 1 400 (regAt Try.f9 4) (st_orders_r4 l l_t g0 g1 g2 g3 g4 g5 g6 g7 g8 g9 g10 g11 g12 g13 g14 g15 x n) =
.need (16 * 1 = 16) (
.need (((0 = 0 ∧ n = List.length x) ∧ n ≤ 6)) (
.ite (decide (F.apE x [(g0, g1, g2, g3), (g4, g5, g6, g7), (g8, g9, g10, g11), (g12, g13, g14, g15)] = 0)) (
 .ite (decide (n = 0)) (
  .need (16 * 1 = 16) (
  .need ((0 = 0 ∧ n = List.length x)) (
  cond (!decide (F.apE x [(g0, g1, g2, g3), (g4, g5, g6, g7), (g8, g9, g10, g11), (g12, g13, g14, g15)] = 0)) (
   cond (decide (0 = F.apE x [(g0, g1, g2, g3), (g4, g5, g6, g7), (g8, g9, g10, g11), (g12, g13, g14, g15)])) (
    .ret (.fin (.c (.bool (decide (Int.ofNat 0 = 0)))) [])) (
    .ret (.fin (.c (.bool false)) []))) (
   .need ((((0 = 0 ∧ n = List.length x) ∧ (((42 : TypeId) = 42 ∧ (45 : TypeId) = 45) ∧ Int.ofNat n = Int.ofNat n)) ∧ (n ≤ 5 ∧ F.apE x [(g0, g1, g2, g3), (g4, g5, g6, g7), (g8, g9, g10, g11), (g12, g13, g14, g15)] = 0))) (
   .ite (F.orB x [g0, g1, g2, g3, g4, g5, g6, g7, g8, g9, g10, g11, g12, g13, g14, g15] n) (
    .ite (decide (n = 0)) (
     .need (((0 = 0 ∧ 0 = 0) ∧ ((0 = 0 ∧ 0 = List.length (F.orL x [g0, g1, g2, g3, g4, g5, g6, g7, g8, g9, g10, g11, g12, g13, g14, g15] n)) ∧ (Int.ofNat 0 : Int) ≤ 1000000))) (
     .ret (.fin (.c (.bool (F.eqI [] (F.orL x [g0, g1, g2, g3, g4, g5, g6, g7, g8, g9, g10, g11, g12, g13, g14, g15] n)))) []))) (
     .need (((0 = 0 ∧ 0 = 0) ∧ ((0 = 0 ∧ n = List.length (F.orL x [g0, g1, g2, g3, g4, g5, g6, g7, g8, g9, g10, g11, g12, g13, g14, g15] n)) ∧ (Int.ofNat 0 : Int) ≤ 1000000))) (
     .ret (.fin (.c (.bool (F.eqI [] (F.orL x [g0, g1, g2, g3, g4, g5, g6, g7, g8, g9, g10, g11, g12, g13, g14, g15] n)))) [])))) (
    .ret (.fin (.c (.bool false)) []))))))) (
  .ite (F.srB x [g0, g1, g2, g3, g4, g5, g6, g7, g8, g9, g10, g11, g12, g13, g14, g15] n [] [] (List.replicate n false)) (
   .need (16 * 1 = 16) (
   .need ((0 = 0 ∧ n = List.length x)) (
   cond (!decide (F.apE x [(g0, g1, g2, g3), (g4, g5, g6, g7), (g8, g9, g10, g11), (g12, g13, g14, g15)] = 0)) (
    cond (decide (0 = F.apE x [(g0, g1, g2, g3), (g4, g5, g6, g7), (g8, g9, g10, g11), (g12, g13, g14, g15)])) (
     .ret (.fin (.c (.bool (decide (Int.ofNat n = 0)))) [])) (
     .ret (.fin (.c (.bool false)) []))) (
    .need ((((0 = 0 ∧ n = List.length x) ∧ (((42 : TypeId) = 42 ∧ (45 : TypeId) = 45) ∧ Int.ofNat n = Int.ofNat n)) ∧ (n ≤ 5 ∧ F.apE x [(g0, g1, g2, g3), (g4, g5, g6, g7), (g8, g9, g10, g11), (g12, g13, g14, g15)] = 0))) (
    .ite (F.orB x [g0, g1, g2, g3, g4, g5, g6, g7, g8, g9, g10, g11, g12, g13, g14, g15] n) (
     .ite (decide (n = 0)) (
      .need (((0 = 0 ∧ n =   List.length     (F.srR x [g0, g1, g2, g3, g4, g5, g6, g7, g8, g9, g10, g11, g12, g13, g14, g15] n [] [] (List.replicate n false))) ∧ ((0 = 0 ∧ 0 = List.length (F.orL x [g0, g1, g2, g3, g4, g5, g6, g7, g8, g9, g10, g11, g12, g13, g14, g15] n)) ∧ Int.ofNat     (List.length       (F.srR x [g0, g1, g2, g3, g4, g5, g6, g7, g8, g9, g10, g11, g12, g13, g14, g15] n [] []         (List.replicate n false))) ≤   1000000))) (
      .ret (.fin (.c (.bool (F.eqI (F.srR x [g0, g1, g2, g3, g4, g5, g6, g7, g8, g9, g10, g11, g12, g13, g14, g15] n [] [] (List.replicate n false))   (F.orL x [g0, g1, g2, g3, g4, g5, g6, g7, g8, g9, g10, g11, g12, g13, g14, g15] n)))) []))) (
      .need (((0 = 0 ∧ n =   List.length     (F.srR x [g0, g1, g2, g3, g4, g5, g6, g7, g8, g9, g10, g11, g12, g13, g14, g15] n [] [] (List.replicate n false))) ∧ ((0 = 0 ∧ n = List.length (F.orL x [g0, g1, g2, g3, g4, g5, g6, g7, g8, g9, g10, g11, g12, g13, g14, g15] n)) ∧ Int.ofNat     (List.length       (F.srR x [g0, g1, g2, g3, g4, g5, g6, g7, g8, g9, g10, g11, g12, g13, g14, g15] n [] []         (List.replicate n false))) ≤   1000000))) (
      .ret (.fin (.c (.bool (F.eqI (F.srR x [g0, g1, g2, g3, g4, g5, g6, g7, g8, g9, g10, g11, g12, g13, g14, g15] n [] [] (List.replicate n false))   (F.orL x [g0, g1, g2, g3, g4, g5, g6, g7, g8, g9, g10, g11, g12, g13, g14, g15] n)))) [])))) (
     .ret (.fin (.c (.bool false)) []))))))) (
   .need (16 * 1 = 16) (
   .need ((0 = 0 ∧ n = List.length x)) (
   cond (!decide (F.apE x [(g0, g1, g2, g3), (g4, g5, g6, g7), (g8, g9, g10, g11), (g12, g13, g14, g15)] = 0)) (
    cond (decide (8 = F.apE x [(g0, g1, g2, g3), (g4, g5, g6, g7), (g8, g9, g10, g11), (g12, g13, g14, g15)])) (
     .ret (.fin (.c (.bool (decide (Int.ofNat 0 = 0)))) [])) (
     .ret (.fin (.c (.bool false)) []))) (
    .need ((((0 = 0 ∧ n = List.length x) ∧ (((42 : TypeId) = 42 ∧ (45 : TypeId) = 45) ∧ Int.ofNat n = Int.ofNat n)) ∧ (n ≤ 5 ∧ F.apE x [(g0, g1, g2, g3), (g4, g5, g6, g7), (g8, g9, g10, g11), (g12, g13, g14, g15)] = 0))) (
    .ite (F.orB x [g0, g1, g2, g3, g4, g5, g6, g7, g8, g9, g10, g11, g12, g13, g14, g15] n) (
     .ite (decide (n = 0)) (
      .ret (.fin (.c (.bool false)) [])) (
      .ret (.fin (.c (.bool false)) []))) (
     .ret (.fin (.c (.bool (decide (Int.ofNat 0 = 0)))) []))))))))) (
 .need (16 * 1 = 16) (
 .need ((0 = 0 ∧ n = List.length x)) (
 cond (!decide (F.apE x [(g0, g1, g2, g3), (g4, g5, g6, g7), (g8, g9, g10, g11), (g12, g13, g14, g15)] = 0)) (
  cond (decide   (F.apE x [(g0, g1, g2, g3), (g4, g5, g6, g7), (g8, g9, g10, g11), (g12, g13, g14, g15)] =     F.apE x [(g0, g1, g2, g3), (g4, g5, g6, g7), (g8, g9, g10, g11), (g12, g13, g14, g15)])) (
   .ret (.fin (.c (.bool (decide (Int.ofNat 0 = 0)))) [])) (
   .ret (.fin (.c (.bool false)) []))) (
  .need ((((0 = 0 ∧ n = List.length x) ∧ (((42 : TypeId) = 42 ∧ (45 : TypeId) = 45) ∧ Int.ofNat n = Int.ofNat n)) ∧ (n ≤ 5 ∧ F.apE x [(g0, g1, g2, g3), (g4, g5, g6, g7), (g8, g9, g10, g11), (g12, g13, g14, g15)] = 0))) (
  .ite (F.orB x [g0, g1, g2, g3, g4, g5, g6, g7, g8, g9, g10, g11, g12, g13, g14, g15] n) (
   .ite (decide (n = 0)) (
    cond (decide (F.apE x [(g0, g1, g2, g3), (g4, g5, g6, g7), (g8, g9, g10, g11), (g12, g13, g14, g15)] = 0)) (
     .need (((0 = 0 ∧ 0 = 0) ∧ ((0 = 0 ∧ 0 = List.length (F.orL x [g0, g1, g2, g3, g4, g5, g6, g7, g8, g9, g10, g11, g12, g13, g14, g15] n)) ∧ (Int.ofNat 0 : Int) ≤ 1000000))) (
     .ret (.fin (.c (.bool (F.eqI [] (F.orL x [g0, g1, g2, g3, g4, g5, g6, g7, g8, g9, g10, g11, g12, g13, g14, g15] n)))) []))) (
     .ret (.fin (.c (.bool false)) []))) (
    cond (decide (F.apE x [(g0, g1, g2, g3), (g4, g5, g6, g7), (g8, g9, g10, g11), (g12, g13, g14, g15)] = 0)) (
     .need (((0 = 0 ∧ 0 = 0) ∧ ((0 = 0 ∧ n = List.length (F.orL x [g0, g1, g2, g3, g4, g5, g6, g7, g8, g9, g10, g11, g12, g13, g14, g15] n)) ∧ (Int.ofNat 0 : Int) ≤ 1000000))) (
     .ret (.fin (.c (.bool (F.eqI [] (F.orL x [g0, g1, g2, g3, g4, g5, g6, g7, g8, g9, g10, g11, g12, g13, g14, g15] n)))) []))) (
     .ret (.fin (.c (.bool false)) [])))) (
   cond (decide (F.apE x [(g0, g1, g2, g3), (g4, g5, g6, g7), (g8, g9, g10, g11), (g12, g13, g14, g15)] = 8)) (
    .ret (.fin (.c (.bool (decide (Int.ofNat 0 = 0)))) [])) (
    .ret (.fin (.c (.bool false)) [])))))))))) := by kernel_rfl



theorem perms_len (n : Nat) : ∀ (d : Nat) (o x : List Int), x ∈ F.perms n d o → x.length = o.length + d
  | 0, o, x, h => by
    rw [F.perms, List.mem_singleton] at h
    rw [h]; rfl
  | d + 1, o, x, h => by
    rw [F.perms] at h
    obtain ⟨i, _, hx⟩ := List.mem_flatMap.1 h
    split at hx
    · cases hx
    · rw [perms_len n d _ x hx, List.length_append, List.length_singleton]; omega
theorem sr_or (x : List F.It) (g : List Int) : (F.sr x g x.length [] [] (List.replicate x.length false)).map (·.1) = (F.perms x.length x.length []).find? (F.gdB x g) :=
  sr_find x g x.length [] (List.replicate x.length false) ⟨List.length_replicate .., fun i hi => by simp [List.getD, hi]⟩ rfl
theorem or_facts (x : List F.It) (g : List Int) : F.srB x g x.length [] [] (List.replicate x.length false) = F.orB x g x.length ∧ (F.orB x g x.length = true → F.srR x g x.length [] [] (List.replicate x.length false) = F.orL x g x.length ∧ (F.orL x g x.length).length = x.length) ∧ (x.length = 0 → F.orB x g x.length = true ∧ F.orL x g x.length = []) := by
  have h := sr_or x g
  unfold F.srB F.srR F.orB F.orL
  rw [← h]
  refine ⟨by cases F.sr x g x.length [] [] (List.replicate x.length false) <;> rfl, fun c => ⟨?_, ?_⟩, fun c => ?_⟩
  · cases hs : F.sr x g x.length [] [] (List.replicate x.length false) with
    | none => rw [hs] at c; cases c
    | some r => rfl
  · rw [h] at c ⊢
    cases hf : (F.perms x.length x.length []).find? (F.gdB x g) with
    | none => rw [hf] at c; cases c
    | some r =>
      have := perms_len _ _ _ _ (List.mem_of_find?_eq_some hf)
      simpa using this
  · have e : x = [] := List.length_eq_zero_iff.1 c
    subst e
    exact ⟨rfl, rfl⟩
theorem orders_r4 (l : List F.It) (l_t : Bool) (g0 g1 g2 g3 g4 g5 g6 g7 g8 g9 g10 g11 g12 g13 g14 g15 : Int) (x : List F.It) (n : Nat) (hn : n = x.length) (h5 : n ≤ 5) (b0 : Base) (hb : b0.n = 1) : Sym.Runs Try.prog b0 (regAt Try.f9 4) (st_orders_r4 l l_t g0 g1 g2 g3 g4 g5 g6 g7 g8 g9 g10 g11 g12 g13 g14 g15 x n) (Sym.Ends Try.prog Try.f9 1 (.c (.bool true)) []) := by
  subst hn
  obtain ⟨fB, fR, f0⟩ := or_facts x [g0, g1, g2, g3, g4, g5, g6, g7, g8, g9, g10, g11, g12, g13, g14, g15]
  refine Runs.go (cfg := C_os) L_os_ok mixed cuts_orders_r4 400 hb (orders_tr4 l l_t g0 g1 g2 g3 g4 g5 g6 g7 g8 g9 g10 g11 g12 g13 g14 g15 x x.length) ?_
  have eI : ∀ a : List Int, F.eqI a a = true := fun a => by simp [F.eqI]
  simp only [T.wp, T.wp_cond, Aft, decide_eq_true_eq, decide_eq_false_iff_not, Int.ofNat_eq_natCast, fB]
  refine ⟨trivial, ⟨⟨trivial, trivial⟩, by omega⟩, fun h0 => ⟨fun hz => ?_, fun hz => ⟨fun hB => ?_, fun hB => ?_⟩⟩, fun h0 => ?_⟩
  · obtain ⟨z1, z2⟩ := f0 hz
    refine ⟨trivial, ⟨trivial, trivial⟩, ite_no (by simp [h0]) ⟨⟨⟨⟨trivial, trivial⟩, ⟨trivial, trivial⟩, trivial⟩, h5, h0⟩, fun _ => ⟨fun _ => ⟨?_, ?_⟩, fun c => absurd hz c⟩, fun c => by (rw [z1] at c; cases c)⟩⟩
    · rw [z2]; exact ⟨⟨trivial, trivial⟩, ⟨trivial, rfl⟩, by decide⟩
    · rw [z2]; exact ⟨rfl, trivial⟩
  · obtain ⟨r1, r2⟩ := fR hB
    refine ⟨trivial, ⟨trivial, trivial⟩, ite_no (by simp [h0]) ⟨⟨⟨⟨trivial, trivial⟩, ⟨trivial, trivial⟩, trivial⟩, h5, h0⟩, fun _ => ⟨fun c => absurd c hz, fun c => ⟨?_, ?_⟩⟩, fun c => by (rw [hB] at c; cases c)⟩⟩
    · rw [r1, r2]; exact ⟨⟨trivial, rfl⟩, ⟨trivial, rfl⟩, by omega⟩
    · rw [r1, eI]; exact ⟨rfl, trivial⟩
  · exact ⟨trivial, ⟨trivial, trivial⟩, ite_no (by simp [h0]) ⟨⟨⟨⟨trivial, trivial⟩, ⟨trivial, trivial⟩, trivial⟩, h5, h0⟩, fun c => by (rw [hB] at c; cases c), fun _ => ⟨rfl, trivial⟩⟩⟩
  · exact ⟨trivial, ⟨trivial, trivial⟩, ite_yes (by simp [h0]) (ite_yes trivial ⟨rfl, trivial⟩)⟩
theorem orders_run (l : List (List UInt8 × Int × Int × Int)) (l_t : Bool) (g0 g1 g2 g3 g4 g5 g6 g7 g8 g9 g10 g11 g12 g13 g14 g15 : Int) (b0 : Base) (hb : b0.n = 1)  : Sym.Runs Try.prog b0 [.code (codeOf Try.f9)] ⟨argsS Try.f9 [.c (.slc 0 0 (List.length l) l_t), .agg [.int .i64 g0, .int .i64 g1, .int .i64 g2, .int .i64 g3, .int .i64 g4, .int .i64 g5, .int .i64 g6, .int .i64 g7, .int .i64 g8, .int .i64 g9, .int .i64 g10, .int .i64 g11, .int .i64 g12, .int .i64 g13, .int .i64 g14, .int .i64 g15]], ([.inp 7 l] : Heap cod)⟩ (Sym.Ends Try.prog Try.f9 1 (.c (.bool true)) []) := by
  refine Runs.go (cfg := C_os) L_os_ok mixed cuts_orders 400 hb (orders_t0 l l_t g0 g1 g2 g3 g4 g5 g6 g7 g8 g9 g10 g11 g12 g13 g14 g15) ?_
  simp only [T.wp, T.wp_cond, Aft]
  refine ⟨by simp only [Int.ofNat_eq_natCast]; omega, ?_⟩
  have e : (min (Int.ofNat (List.length l)) 5).toNat = min l.length 5 := by simp only [Int.ofNat_eq_natCast]; omega
  rw [e]
  exact Runs.trim 0 (min l.length 5) rfl (orders_r4 l l_t g0 g1 g2 g3 g4 g5 g6 g7 g8 g9 g10 g11 g12 g13 g14 g15 (l.take (min l.length 5)) (min l.length 5) (by rw [List.length_take]; omega) (by omega) b0 hb)



noncomputable def s_orders : Summ cod := fun args H => match args, H with
  | [.c (.slc 0 l_i l_n l_t), .agg [.int .i64 g0, .int .i64 g1, .int .i64 g2, .int .i64 g3, .int .i64 g4, .int .i64 g5, .int .i64 g6, .int .i64 g7, .int .i64 g8, .int .i64 g9, .int .i64 g10, .int .i64 g11, .int .i64 g12, .int .i64 g13, .int .i64 g14, .int .i64 g15]], [o0] => (match o0.asInp 7 with | some l => .need ((l_i = 0 ∧ l_n = List.length l)) (.ret (.c (.bool true), [])) | none => .fail)
  | _, _ => .fail


theorem orders_sound : Sound Try.prog cod 9 s_orders := sound_runs (cfg := C_os) L_os_ok mixed Try.func9 rfl rfl _ fun args H r news hg b0 hb => by
  unfold s_orders at hg
  split at hg
  · skip
    split at hg
    · rename_i l hx0
      cases asInp_spec hx0
      simp only [T.gives, T.wp, Prod.mk.injEq] at hg
      obtain ⟨⟨rfl, rfl⟩, rfl, rfl⟩ := hg
      exact orders_run _ _ _ _ _ _ _ _ _ _ _ _ _ _ _ _ _ _ b0 hb 
    · exact hg.elim
  · exact hg.elim

noncomputable def L_orders : Sums cod := (9, .p s_orders) :: L_os
noncomputable def C_orders : Cfg cod := mkC L_orders

theorem L_orders_ok : Snd Try.prog cod L_orders := .cons orders_sound L_os_ok


end
end Go.Proofs.Ytffcfbamcaoidaa
