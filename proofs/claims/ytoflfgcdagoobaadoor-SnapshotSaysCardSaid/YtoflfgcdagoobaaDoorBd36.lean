/- Parts of the proof, one behind the other: Xl, Xm, Sym27. -/
import Derived.Test.YtoflfgcdagoobaaDoorBd24
import Derived.Test.YtoflfgcdagoobaaDoorBd25
import Derived.Laws.Bits64b
import Derived.WalkSpells
import Derived.WalkLawsBesides
import Derived.Handy
import Derived.Lib.Walk
import Derived.Test.YtoflfgcdagoobaaDoorProg
import Derived.Test.YtoflfgcdagoobaaDoorXi
import Derived.Test.YtoflfgcdagoobaaDoorBd23
section
/- math/bits.TrailingZeros64 at 16: the library's own text walked, its table in the world. -/
namespace Go.Proofs.YtoflfgcdagoobaaDoor
open Go.ChangeShapes Go.WideShapes Go.ChangeAt Go.RowKit Sym
set_option maxRecDepth 100000
noncomputable section
theorem tz_cell {w : World} {M : Nat → Prop} (h : TabW w M) : w.cell? ⟨7, 15, none⟩ = some (.int .u8 4) := by
  obtain ⟨⟨ty, tg, h1⟩, _⟩ := h (7, (Lib.deBruijn64tab.map fun z : Nat => Value.int .u8 z).toArray) (by simp [tabs])
  simp only [World.cell?, h1]
  rfl
set_option maxHeartbeats 1000000 in
theorem tz64_16 (w : World) (hcell : w.cell? ⟨7, 15, none⟩ = some (.int .u8 4)) :
    Calls Tryd.prog 105 #[.int .u64 16] w fun e w' => e = .returned (.int .i64 4) ∧ w' = w := by
  have key : IntKind.u64.wrap (bits BinOp.and IntKind.u64 16 (IntKind.u64.wrap (-16)) * 285870213051353865) / 288230376151711744 = 15 := by decide +kernel
  go_enter Tryd.func105, Tryd.ntmps105
  go_wp2_with (simp only [key])
  go_ret
  exact ⟨rfl, rfl⟩
def s_tz : Summ cod := fun args _ => match args with
  | [.c (.int .u64 n)] => .need (n = 16) (.ret (.c (.int .i64 4), []))
  | _ => .fail
theorem tz_sound : Sound Tryd.prog cod 105 s_tz := by
  refine Sound.scal (fun args w => enters_fn Tryd.func105 rfl rfl args w) fun args H r news w ht hg => ?_
  unfold s_tz at hg
  split at hg
  · obtain ⟨rfl, hg⟩ := hg
    cases hg
    refine ⟨rfl, rfl, .int .i64 4, fun _ _ => rfl, ?_⟩
    refine (tz64_16 w (tz_cell ht)).mono ?_
    rintro e w' ⟨rfl, rfl⟩
    exact ⟨rfl, ⟨Below.refl _ _, Nat.le_refl _⟩⟩
  · exact hg.elim
end
end Go.Proofs.YtoflfgcdagoobaaDoor
end
section
namespace Go.Proofs.YtoflfgcdagoobaaDoor
open Sym Go.RowKit
noncomputable section
set_option maxRecDepth 100000
set_option maxHeartbeats 4000000


noncomputable def L_tz : Sums cod := (105, .p s_tz) :: L_cut
noncomputable def C_tz : Cfg cod := mkC L_tz

theorem L_tz_ok : Snd Tryd.prog cod L_tz := .cons tz_sound L_cut_ok



noncomputable def s_tz0 : Summ cod := autoS C_tz Tryd.f93 400


theorem tz0_sound : Sound Tryd.prog cod 93 s_tz0 := auto_sound (cfg := C_tz) L_tz_ok mixed Tryd.func93 rfl rfl 400

noncomputable def L_tz0 : Sums cod := (93, .p s_tz0) :: L_tz
noncomputable def C_tz0 : Cfg cod := mkC L_tz0

theorem L_tz0_ok : Snd Tryd.prog cod L_tz0 := .cons tz0_sound L_tz_ok



noncomputable def s_pow2 : Summ cod := autoS C_tz0 Tryd.f92 400


theorem pow2_sound : Sound Tryd.prog cod 92 s_pow2 := auto_sound (cfg := C_tz0) L_tz0_ok mixed Tryd.func92 rfl rfl 400

noncomputable def L_pow2 : Sums cod := (92, .p s_pow2) :: L_tz0
noncomputable def C_pow2 : Cfg cod := mkC L_pow2

theorem L_pow2_ok : Snd Tryd.prog cod L_pow2 := .cons pow2_sound L_tz0_ok



namespace F
def hexD : List UInt8 := [48, 49, 50, 51, 52, 53, 54, 55, 56, 57, 97, 98, 99, 100, 101, 102]
def hexL : Nat → Int → List UInt8 → List UInt8
  | 0, _, acc => acc
  | f + 1, n, acc => if 16 ≤ n then hexL f (n / 16) (hexD.getD (n % 16).toNat 0 :: acc) else hexD.getD n.toNat 0 :: acc
def hex (n : Int) : List UInt8 := hexL 16 n []
end F


def cuts_fbits : Cuts := [(11, [14, 12, 16, 11, 0, 10, 4, 3, 15, 1, 13], 2)]

theorem fbits_t0 (n : Int) : symF C_pow2 cuts_fbits Tryd.f77.results.toList 0 400 [.code (codeOf Tryd.f77)] ⟨argsS Tryd.f77 [.c .nil, .c (.int .u64 n), .c (.int .i64 16), .c (.bool false), .c (.bool false)], ([] : Heap cod)⟩ =
.need (i64ok (16 - 1)) (
.need ((IntKind.wrap IntKind.u64 16 : Int) = 16) (
.ret (.cut (cutAt Tryd.f77 11) ⟨tmG 85 [(0, .c (.nil)), (0, .c (.int .u64 n)), (1, .c (.bool false)), (0, .c (.bool false)), (5, .c (.own 0 0)), (0, .c (.str [])), (0, .c (.ptr 1 0 0)), (0, .c (.int .i64 65)), (0, .c (.int .u64 (IntKind.wrap IntKind.u64 4))), (0, .c (.int .u64 (IntKind.wrap IntKind.u64 16))), (0, .c (.int .u64 (IntKind.wrap IntKind.u64 (IntKind.wrap IntKind.u64 16 - 1))))], [.own 3 [] 5, .arr 3 ([0, 0, 0, 0, 0, 0, 0, 0, 0, 0, 0, 0, 0, 0, 0, 0, 0, 0, 0, 0, 0, 0, 0, 0, 0, 0, 0, 0, 0, 0, 0, 0, 0, 0, 0, 0, 0, 0, 0, 0,   0, 0, 0, 0, 0, 0, 0, 0, 0, 0, 0, 0, 0, 0, 0, 0, 0, 0, 0, 0, 0, 0, 0, 0, 0] : List Int) 104]⟩))) := by kernel_rfl


noncomputable def st_fbits_11 (n : Int) (i u : Int) (r : List Int) : St cod := ⟨tmG 85 [(0, .c (.nil)), (0, .c (.int .u64 u)), (1, .c (.bool false)), (0, .c (.bool false)), (5, .c (.own 0 0)), (0, .c (.str [])), (0, .c (.ptr 1 0 0)), (0, .c (.int .i64 i)), (0, .c (.int .u64 (IntKind.wrap IntKind.u64 4))), (0, .c (.int .u64 (IntKind.wrap IntKind.u64 16))), (0, .c (.int .u64 (IntKind.wrap IntKind.u64 (IntKind.wrap IntKind.u64 16 - 1))))], ([.own 3 [] 5, .arr 3 r 104] : Heap cod)⟩


theorem fbits_t11 (n : Int) (i u : Int) (r : List Int) : symF C_pow2 cuts_fbits Tryd.f77.results.toList 0 400 (cutAt Tryd.f77 11) (st_fbits_11 n i u r) =
 cond (decide (IntKind.wrap IntKind.u64 16 ≤ u)) (
 .need (i64ok (i - 1)) (
 .need (((0 : Int) ≤ bits BinOp.and IntKind.u64 u (IntKind.wrap IntKind.u64 (IntKind.wrap IntKind.u64 16 - 1)) ∧ bits BinOp.and IntKind.u64 u (IntKind.wrap IntKind.u64 (IntKind.wrap IntKind.u64 16 - 1)) < Int.ofNat 36)) (
 .need (((0 : Int) ≤ i - 1 ∧ i - 1 < Int.ofNat 65)) (
 .need (0 + Int.toNat (i - 1) < List.length r) (
 .need ((0 : Int) ≤ IntKind.wrap IntKind.u64 4) (
 .ret (.cut (cutAt Tryd.f77 11) ⟨tmG 85 [(0, .c (.nil)), (0, .c (.int .u64 (Int.fdiv u (2 ^ min (Int.toNat (IntKind.wrap IntKind.u64 4)) 64)))), (1, .c (.bool false)), (0, .c (.bool false)), (5, .c (.own 0 0)), (0, .c (.str [])), (0, .c (.ptr 1 0 0)), (0, .c (.int .i64 (i - 1))), (0, .c (.int .u64 (IntKind.wrap IntKind.u64 4))), (0, .c (.int .u64 (IntKind.wrap IntKind.u64 16))), (0, .c (.int .u64 (IntKind.wrap IntKind.u64 (IntKind.wrap IntKind.u64 16 - 1))))], [.own 3 [] 5, .arr 3 (List.set r (0 + Int.toNat (i - 1))   (Int.ofNat     (UInt8.toNat       (List.getD         [48, 49, 50, 51, 52, 53, 54, 55, 56, 57, 97, 98, 99, 100, 101, 102, 103, 104, 105, 106, 107, 108, 109, 110, 111,           112, 113, 114, 115, 116, 117, 118, 119, 120, 121, 122]         (Int.toNat (bits BinOp.and IntKind.u64 u (IntKind.wrap IntKind.u64 (IntKind.wrap IntKind.u64 16 - 1)))) 0))) : List Int) 104]⟩))))))) (
 .need (i64ok (i - 1)) (
 .need (((0 : Int) ≤ u ∧ u < Int.ofNat 36)) (
 .need (((0 : Int) ≤ i - 1 ∧ i - 1 < Int.ofNat 65)) (
 .need (0 + Int.toNat (i - 1) < List.length r) (
 .need (((0 : Int) ≤ i - 1 ∧ i - 1 ≤ Int.ofNat 65)) (
 .need (List.length     (List.take (65 - Int.toNat (i - 1))       (List.drop (0 + Int.toNat (i - 1))         (List.set r (0 + Int.toNat (i - 1))           (Int.ofNat             (UInt8.toNat               (List.getD                 [48, 49, 50, 51, 52, 53, 54, 55, 56, 57, 97, 98, 99, 100, 101, 102, 103, 104, 105, 106, 107, 108, 109,                   110, 111, 112, 113, 114, 115, 116, 117, 118, 119, 120, 121, 122]                 (Int.toNat u) 0)))))) =   65 - Int.toNat (i - 1)) (
 .need (∀ (a : (cod ((fun x => x.snd) (5, 3))).α), ∃ n, (cod 3).enc a = [Cell.int IntKind.u8 n]) (
 .ret (.fin (.tup [.c (.own 0 0), .c (.str (List.map   (Sym.byteOf (cod 3))   (List.take (65 - Int.toNat (i - 1))     (List.drop (0 + Int.toNat (i - 1))       (List.set r (0 + Int.toNat (i - 1))         (Int.ofNat           (UInt8.toNat             (List.getD               [48, 49, 50, 51, 52, 53, 54, 55, 56, 57, 97, 98, 99, 100, 101, 102, 103, 104, 105, 106, 107, 108, 109,                 110, 111, 112, 113, 114, 115, 116, 117, 118, 119, 120, 121, 122]               (Int.toNat u) 0))))))))]) [.own 3 [] 5]))))))))) := by kernel_rfl



theorem and15 (u : Nat) (h : u < 18446744073709551616) : bits BinOp.and IntKind.u64 (u : Int) (IntKind.wrap IntKind.u64 (IntKind.wrap IntKind.u64 16 - 1)) = ((u % 16 : Nat) : Int) := by
  have e : IntKind.wrap IntKind.u64 (IntKind.wrap IntKind.u64 16 - 1) = ((15 : Nat) : Int) := by decide
  rw [e, bits_and_u64_nat u 15 h (by decide)]
  congr 1
  exact Nat.and_two_pow_sub_one_eq_mod u 4
theorem div16 (u : Nat) : Int.fdiv (u : Int) (2 ^ min (Int.toNat (IntKind.wrap IntKind.u64 4)) 64) = ((u / 16 : Nat) : Int) := by
  have e : ((2 : Int) ^ min (Int.toNat (IntKind.wrap IntKind.u64 4)) 64) = 16 := by decide
  rw [e, Int.fdiv_eq_ediv_of_nonneg _ (by decide)]
  omega
theorem hexDs : ∀ k, k < 16 → List.getD [48, 49, 50, 51, 52, 53, 54, 55, 56, 57, 97, 98, 99, 100, 101, 102, 103, 104, 105, 106, 107, 108, 109, 110, 111, 112, 113, 114, 115, 116, 117, 118, 119, 120, 121, 122] k (0 : UInt8) = F.hexD.getD k 0 := by decide
def F.byt (n : Int) : UInt8 := UInt8.ofNat n.toNat
theorem byte_id (b : UInt8) : F.byt ((b.toNat : Nat) : Int) = b := by
  unfold F.byt
  rw [Int.toNat_natCast, UInt8.ofNat_toNat]
theorem bytes_id (l : List UInt8) : (l.map fun b => ((b.toNat : Nat) : Int)).map F.byt = l := by
  rw [List.map_map]
  have : (F.byt ∘ fun b : UInt8 => ((b.toNat : Nat) : Int)) = id := funext byte_id
  rw [this, List.map_id]
theorem set_drop (r : List Int) (i : Nat) (d : Int) (h : i < r.length) : (r.set i d).drop i = d :: r.drop (i + 1) := by
  rw [List.drop_eq_getElem_cons (by rw [List.length_set]; exact h), List.getElem_set_self, List.drop_set_of_lt (by omega)]
theorem fbits_run (n : Int) (b0 : Base) (hb : b0.n = 0) (h0 : 0 ≤ n ∧ n < 18446744073709551616) : Sym.Runs Tryd.prog b0 [.code (codeOf Tryd.f77)] ⟨argsS Tryd.f77 [.c .nil, .c (.int .u64 n), .c (.int .i64 16), .c (.bool false), .c (.bool false)], ([] : Heap cod)⟩ (Sym.Ends Tryd.prog Tryd.f77 0 (.tup [.c (.own 0 0), .c (.str (F.hex n))]) [.own 3 [] 5]) := by
  have key : ∀ (f u i : Nat) (r : List Int) (ds : List UInt8), u < 16 ^ (f + 1) → u < 18446744073709551616 → f + 1 ≤ i → i ≤ 65 → r.length = 65 → r.drop i = ds.map (fun b => ((b.toNat : Nat) : Int)) → F.hex n = F.hexL (f + 1) (u : Int) ds →
      Sym.Runs Tryd.prog b0 (cutAt Tryd.f77 11) (st_fbits_11 n (i : Int) (u : Int) r) (Sym.Ends Tryd.prog Tryd.f77 0 (.tup [.c (.own 0 0), .c (.str (F.hex n))]) [.own 3 [] 5]) := by
    intro f
    induction f with
    | zero =>
      intro u i r ds hu hu2 hi hi2 hr hd hx
      have hu' : u < 16 := by simpa using hu
      refine Runs.go (cfg := C_pow2) L_pow2_ok mixed cuts_fbits 400 hb (fbits_t11 n (i : Int) (u : Int) r) ?_
      simp only [T.wp, T.wp_cond, Aft, Int.ofNat_eq_natCast, decide_eq_true_eq, and_true, true_and, Nat.zero_add, Bool.not_eq_true', decide_eq_false_iff_not, Int.toNat_natCast, hexDs _ hu', show ((i : Int) - 1).toNat = i - 1 by omega]
      refine ite_no (by rw [show IntKind.wrap IntKind.u64 16 = 16 from rfl]; omega) ⟨by unfold i64ok; omega, ⟨by omega, by omega⟩, ⟨by omega, by omega⟩, by omega, ⟨by omega, by omega⟩, ?_⟩
      have hd2 := set_drop r (i - 1) ((F.hexD.getD u 0).toNat : Int) (by omega)
      rw [show i - 1 + 1 = i by omega, hd] at hd2
      have hl : (List.drop (i - 1) (r.set (i - 1) ((F.hexD.getD u 0).toNat : Int))).length = 65 - (i - 1) := by rw [List.length_drop, List.length_set, hr]
      have ht : List.take (65 - (i - 1)) (List.drop (i - 1) (r.set (i - 1) ((F.hexD.getD u 0).toNat : Int))) = (F.hexD.getD u 0 :: ds).map (fun b => ((b.toNat : Nat) : Int)) := by
        rw [List.take_of_length_le (by omega), hd2]; rfl
      have hx2 : F.hex n = F.hexD.getD u 0 :: ds := by rw [hx, F.hexL, if_neg (by omega), Int.toNat_natCast]
      refine ⟨by have := congrArg List.length ht; rw [List.length_take, hl] at this; rw [List.length_take]; exact (show min _ _ = _ by rw [hl]; omega), fun a => ⟨a, rfl⟩, ?_⟩
      rw [hx2]
      have := (congrArg (List.map F.byt) ht).trans (bytes_id _)
      exact congrArg (fun x => SV.tup [SV.c (Cell.own 0 0), SV.c (Cell.str x)]) this
    | succ f ih =>
      intro u i r ds hu hu2 hi hi2 hr hd hx
      refine Runs.go (cfg := C_pow2) L_pow2_ok mixed cuts_fbits 400 hb (fbits_t11 n (i : Int) (u : Int) r) ?_
      by_cases hu' : u < 16
      · simp only [T.wp, T.wp_cond, Aft, Int.ofNat_eq_natCast, decide_eq_true_eq, and_true, true_and, Nat.zero_add, Bool.not_eq_true', decide_eq_false_iff_not, Int.toNat_natCast, hexDs _ hu', show ((i : Int) - 1).toNat = i - 1 by omega]
        refine ite_no (by rw [show IntKind.wrap IntKind.u64 16 = 16 from rfl]; omega) ⟨by unfold i64ok; omega, ⟨by omega, by omega⟩, ⟨by omega, by omega⟩, by omega, ⟨by omega, by omega⟩, ?_⟩
        have hd2 := set_drop r (i - 1) ((F.hexD.getD u 0).toNat : Int) (by omega)
        rw [show i - 1 + 1 = i by omega, hd] at hd2
        have hl : (List.drop (i - 1) (r.set (i - 1) ((F.hexD.getD u 0).toNat : Int))).length = 65 - (i - 1) := by rw [List.length_drop, List.length_set, hr]
        have ht : List.take (65 - (i - 1)) (List.drop (i - 1) (r.set (i - 1) ((F.hexD.getD u 0).toNat : Int))) = (F.hexD.getD u 0 :: ds).map (fun b => ((b.toNat : Nat) : Int)) := by
          rw [List.take_of_length_le (by omega), hd2]; rfl
        have hx2 : F.hex n = F.hexD.getD u 0 :: ds := by rw [hx, F.hexL, if_neg (by omega), Int.toNat_natCast]
        refine ⟨by have := congrArg List.length ht; rw [List.length_take, hl] at this; rw [List.length_take]; exact (show min _ _ = _ by rw [hl]; omega), fun a => ⟨a, rfl⟩, ?_⟩
        rw [hx2]
        have := (congrArg (List.map F.byt) ht).trans (bytes_id _)
        exact congrArg (fun x => SV.tup [SV.c (Cell.own 0 0), SV.c (Cell.str x)]) this
      · have e1 : ((i : Int) - 1).toNat = i - 1 := by omega
        have hm : u % 16 < 16 := Nat.mod_lt _ (by decide)
        have nx := ih (u / 16) (i - 1) (r.set (i - 1) ((F.hexD.getD (u % 16) 0).toNat : Int)) (F.hexD.getD (u % 16) 0 :: ds) (by rw [Nat.pow_succ] at hu; omega) (by omega) (by omega) (by omega) (by rw [List.length_set]; exact hr)
          (by rw [set_drop r (i - 1) _ (by omega), show i - 1 + 1 = i by omega, hd]; rfl)
          (by rw [hx, F.hexL, if_pos (by omega), show (u : Int) / 16 = ((u / 16 : Nat) : Int) by omega, show ((u : Int) % 16).toNat = u % 16 by omega])
        have e2 : ((i - 1 : Nat) : Int) = (i : Int) - 1 := by omega
        rw [e2] at nx
        simp only [T.wp, T.wp_cond, Aft, Int.ofNat_eq_natCast, decide_eq_true_eq, and_true, true_and, Nat.zero_add, Bool.not_eq_true', decide_eq_false_iff_not, and15 u hu2, div16, e1, Int.toNat_natCast, hexDs _ hm]
        refine ite_yes (by rw [show IntKind.wrap IntKind.u64 16 = 16 from rfl]; omega) ⟨by unfold i64ok; omega, ⟨by omega, by omega⟩, ⟨by omega, by omega⟩, by omega, by decide, nx⟩
  refine Runs.go (cfg := C_pow2) L_pow2_ok mixed cuts_fbits 400 hb (fbits_t0 n) ?_
  simp only [T.wp, T.wp_cond, Aft, Int.ofNat_eq_natCast, decide_eq_true_eq, and_true, true_and, Nat.zero_add, Bool.not_eq_true', decide_eq_false_iff_not]
  obtain ⟨u, rfl⟩ : ∃ u : Nat, n = u := ⟨n.toNat, by omega⟩
  refine ⟨by unfold i64ok; omega, rfl, ?_⟩
  exact key 15 u 65 _ [] (by omega) (by omega) (by decide) (by decide) rfl rfl rfl



noncomputable def s_fbits : Summ cod := fun args H => match args, H with
  | [.c .nil, .c (.int .u64 n), .c (.int .i64 16), .c (.bool false), .c (.bool false)], [] => .need ((0 ≤ n ∧ n < 18446744073709551616)) (.ret (.tup [.c (.own 0 0), .c (.str (F.hex n))], [.own 3 [] 5]))
  | _, _ => .fail


theorem fbits_sound : Sound Tryd.prog cod 77 s_fbits := sound_runs (cfg := C_pow2) L_pow2_ok mixed Tryd.func77 rfl rfl _ fun args H r news hg b0 hb => by
  unfold s_fbits at hg
  split at hg
  · skip
    simp only [T.gives, T.wp, Prod.mk.injEq] at hg
    obtain ⟨q0, rfl, rfl⟩ := hg
    exact fbits_run _ b0 hb (by assumption)
  · exact hg.elim

noncomputable def L_fbits : Sums cod := (77, .p s_fbits) :: L_pow2
noncomputable def C_fbits : Cfg cod := mkC L_fbits

theorem L_fbits_ok : Snd Tryd.prog cod L_fbits := .cons fbits_sound L_pow2_ok



noncomputable def s_fu0 : Summ cod := autoS C_fbits Tryd.f63 400


theorem fu0_sound : Sound Tryd.prog cod 63 s_fu0 := auto_sound (cfg := C_fbits) L_fbits_ok mixed Tryd.func63 rfl rfl 400

noncomputable def L_fu0 : Sums cod := (63, .p s_fu0) :: L_fbits
noncomputable def C_fu0 : Cfg cod := mkC L_fu0

theorem L_fu0_ok : Snd Tryd.prog cod L_fu0 := .cons fu0_sound L_fbits_ok



noncomputable def s_fu : Summ cod := autoS C_fu0 Tryd.f48 400


theorem fu_sound : Sound Tryd.prog cod 48 s_fu := auto_sound (cfg := C_fu0) L_fu0_ok mixed Tryd.func48 rfl rfl 400

noncomputable def L_fu : Sums cod := (48, .p s_fu) :: L_fu0
noncomputable def C_fu : Cfg cod := mkC L_fu

theorem L_fu_ok : Snd Tryd.prog cod L_fu := .cons fu_sound L_fu0_ok


end
end Go.Proofs.YtoflfgcdagoobaaDoor
end
section
/- One function, two summaries: one where an argument is nil, another elsewhere. -/
namespace Go.Proofs.YtoflfgcdagoobaaDoor.Sym
open Go.RowKit

section
variable {cod : Nat → Codec} {P : Program}
def hasNil (args : List SV) : Bool := args.any fun x => match x with
  | .c .nil => true
  | _ => false
def s_or (s1 s2 : Summ cod) : Summ cod := fun args H => cond (hasNil args) (s1 args H) (s2 args H)
theorem Sound.or {g : FuncId} {s1 s2 : Summ cod} (h1 : Sound P cod g s1) (h2 : Sound P cod g s2) : Sound P cod g (s_or s1 s2) := by
  refine ⟨h1.enters, fun args H env w vs r news hro G ha hg => ?_⟩
  unfold s_or at hg
  cases hc : hasNil args with
  | true => rw [hc] at hg; exact h1.calls args H env w vs r news hro G ha hg
  | false => rw [hc] at hg; exact h2.calls args H env w vs r news hro G ha hg
end
end Go.Proofs.YtoflfgcdagoobaaDoor.Sym
end
