/- Parts of the proof, one behind the other: Ye, Yks, Ykm, Yz. -/
import Derived.Test.YtiolfkmkbccndaaGreatDoorXr
import Derived.Test.YtiolfkmkbccndaaGreatDoorBd41
import Derived.Test.YtiolfkmkbccndaaGreatDoorBd42
import Derived.WalkKit
import Derived.ProofKit
import Derived.OpenShut
import Derived.ShutString
import Derived.WalkSpells
import Derived.WalkLawsBesides
import Derived.Handy
import Derived.Deep.QuietTactic
import Derived.BigQuiet
import Derived.Lib.Hide
import Derived.Lib.SmallJoins
import Derived.Deep.Slices
import Derived.Deep.Fields
import Derived.Deep.AppendLies
import Derived.ChangeSame
import Derived.Deep.RegionHeld3
import Derived.StillTailTactics
import Derived.Test.YtiolfkmkbccndaaGreatDoorProg
import Derived.Shelf.RegionOpenPlain
import Derived.Deep.RegionLaw
import Derived.Deep.LoopGhost
import Derived.Lib.Walk
import Derived.Lib.SliceRun
import Derived.Lib.AppendZeros
import Derived.Lib.AppendZerosOnto
import Derived.Lib.Overlaps
import Derived.Laws.Externs
import Derived.Laws.IdiomCopy
import Derived.Laws.NewBlocks
import Derived.Shelf.Abstract
import Derived.Maps.AppendAt
import Derived.Test.YtiolfkmkbccndaaGreatDoorBd29
section
namespace Go.Proofs.YtiolfkmkbccndaaGreatDoor
open Sym Go.RowKit
noncomputable section
set_option maxRecDepth 100000
set_option maxHeartbeats 4000000



def cuts_run : Cuts := [(100001, [1, 0], 1), (8, [1, 23, 24, 25, 8], 30)]
def cuts_run_r1 : Cuts := [(8, [1, 23, 24, 25, 8], 30)]
def cuts_run_r1b : Cuts := [(8, [1, 23, 24, 25, 8], 30)]

theorem run_t0 (es : List (Int × Int × List UInt8 × List UInt8)) (es_t : Bool) : symF (Cfg.maybe C_step) cuts_run Tryz.f8.results.toList 1 400 [.code (codeOf Tryz.f8)] ⟨argsS Tryz.f8 [.c .nil, .c (.slc 0 0 (List.length es) es_t)], ([.inp 5 es] : Heap cod)⟩ =
.ret (.cut (regAt Tryz.f8 1) ⟨tmG 56 [(0, .c (.nil)), (0, .c (.slc 0 0 (List.length es) es_t))], [.inp 5 es]⟩) := by kernel_rfl


noncomputable def st_run_r1 (es : List (Int × Int × List UInt8 × List UInt8)) (es_t : Bool)  : St cod := ⟨tmG 56 [(0, .c (.nil)), (0, .c (.slc 0 0 (List.length es) es_t))], [.inp 5 es]⟩


noncomputable def st_run_r1b (es : List (Int × Int × List UInt8 × List UInt8)) (es_t : Bool)  : St cod := ⟨tmG 56 [(0, .c (.own 1 0)), (0, .c (.slc 0 0 (List.length es) es_t))], ([.inp 5 es, .own 1 [] 56] : Heap cod)⟩


theorem run_tr1b (es : List (Int × Int × List UInt8 × List UInt8)) (es_t : Bool)  : symF (Cfg.maybe C_step) cuts_run_r1b Tryz.f8.results.toList 1 400 (regAt Tryz.f8 1) (st_run_r1b es es_t ) =
.need (((0 = 0 ∧ 0 = 0) ∧ F.short [])) (
 cond (decide (500 < Int.ofNat (List.length es))) (
 .ret (.fin (.tup [.c (.own 1 0), .c (.int .i64 0), .c (.int .i64 2)]) [.own 1 [] 56])) (
 .need ((0 : Nat) ≤ 1000000) (
 .ret (.cut (cutAt Tryz.f8 8) ⟨tmG 32 [(1, .c (.slc 0 0 (List.length es) es_t)), (6, .c (.own 2 0)), (14, .c (.slc 0 0 (List.length es) es_t)), (0, .c (.int .i64 (Int.ofNat (List.length es)))), (0, .c (.int .i64 0))], [.inp 5 es, .own 1 [] 56, .own 1 [] 56]⟩)))) := by kernel_rfl


noncomputable def st_run_8 (es : List (Int × Int × List UInt8 × List UInt8)) (es_t : Bool) (k : Nat) (r : List (List UInt8 × List UInt8)) (q : Nat) : St cod := ⟨tmG 32 [(1, .c (.slc 0 0 (List.length es) es_t)), (6, .c (.own 1 q)), (14, .c (.slc 0 0 (List.length es) es_t)), (0, .c (.int .i64 (Int.ofNat (List.length es)))), (0, .c (.int .i64 (k : Int)))], ([.inp 5 es, .own 1 r 56] : Heap cod)⟩


theorem run_t8 (es : List (Int × Int × List UInt8 × List UInt8)) (es_t : Bool) (k : Nat) (r : List (List UInt8 × List UInt8)) (q : Nat) : symF (Cfg.maybe C_step) cuts_run Tryz.f8.results.toList 1 400 (cutAt Tryz.f8 8) (st_run_8 es es_t k r q) =
 cond (decide (Int.ofNat k < Int.ofNat (List.length es))) (
 .need (((0 : Int) ≤ Int.ofNat k ∧ Int.ofNat k < Int.ofNat (List.length es))) (
 .need (0 + Int.toNat (Int.ofNat k) < List.length es) (
 cond (decide (0 < Int.ofNat k)) (
  .need (i64ok (Int.ofNat k - 1)) (
  .need (((0 : Int) ≤ Int.ofNat k - 1 ∧ Int.ofNat k - 1 < Int.ofNat (List.length es))) (
  .need (0 + Int.toNat (Int.ofNat k - 1) < List.length es) (
  .need (i64ok ((List.getD es (0 + Int.toNat (Int.ofNat k - 1)) (cod 5).d).1 + 1)) (
  cond (!decide     ((List.getD es (0 + Int.toNat (Int.ofNat k)) (cod 5).d).1 =       (List.getD es (0 + Int.toNat (Int.ofNat k - 1)) (cod 5).d).1 + 1)) (
   .ret (.fin (.tup [.c (.own 1 0), .c (.int .i64 (Int.ofNat k)), .c (.int .i64 21)]) [.own 1 [] 56])) (
   .need (((0 = 0 ∧ q = List.length r) ∧ (F.short r ∧ (List.length (List.getD es (0 + Int.toNat (Int.ofNat k)) (cod 5).d).2.2.1 ≤ 1000000000000000 ∧ List.length (List.getD es (0 + Int.toNat (Int.ofNat k)) (cod 5).d).2.2.2 ≤ 1000000000000000)))) (
   cond (!decide     (F.stE r (List.getD es (0 + Int.toNat (Int.ofNat k)) (cod 5).d).1         (List.getD es (0 + Int.toNat (Int.ofNat k)) (cod 5).d).2.1         (List.getD es (0 + Int.toNat (Int.ofNat k)) (cod 5).d).2.2.1         (List.getD es (0 + Int.toNat (Int.ofNat k)) (cod 5).d).2.2.2 =       0)) (
    .ret (.fin (.tup [.c (.own 1 0), .c (.int .i64 (Int.ofNat k)), .c (.int .i64 (F.stE r (List.getD es (0 + Int.toNat (Int.ofNat k)) (cod 5).d).1   (List.getD es (0 + Int.toNat (Int.ofNat k)) (cod 5).d).2.1   (List.getD es (0 + Int.toNat (Int.ofNat k)) (cod 5).d).2.2.1   (List.getD es (0 + Int.toNat (Int.ofNat k)) (cod 5).d).2.2.2))]) [.own 1 [] 56])) (
    .need (i64ok (Int.ofNat k + 1)) (
    .ret (.cut (cutAt Tryz.f8 8) ⟨tmG 32 [(1, .c (.slc 0 0 (List.length es) es_t)), (6, .c (.own 3 (List.length   (F.stR r (List.getD es (0 + Int.toNat (Int.ofNat k)) (cod 5).d).1     (List.getD es (0 + Int.toNat (Int.ofNat k)) (cod 5).d).2.1     (List.getD es (0 + Int.toNat (Int.ofNat k)) (cod 5).d).2.2.1     (List.getD es (0 + Int.toNat (Int.ofNat k)) (cod 5).d).2.2.2)))), (14, .c (.slc 0 0 (List.length es) es_t)), (0, .c (.int .i64 (Int.ofNat (List.length es)))), (0, .c (.int .i64 (Int.ofNat k + 1)))], [.inp 5 es, .own 1 r 56, .blk [.int .i64 ((List.getD es (0 + Int.toNat (Int.ofNat k)) (cod 5).d).1), .int .i64 ((List.getD es (0 + Int.toNat (Int.ofNat k)) (cod 5).d).2.1), .str ((List.getD es (0 + Int.toNat (Int.ofNat k)) (cod 5).d).2.2.1), .str ((List.getD es (0 + Int.toNat (Int.ofNat k)) (cod 5).d).2.2.2)] 31, .own 1 (F.stR r (List.getD es (0 + Int.toNat (Int.ofNat k)) (cod 5).d).1   (List.getD es (0 + Int.toNat (Int.ofNat k)) (cod 5).d).2.1   (List.getD es (0 + Int.toNat (Int.ofNat k)) (cod 5).d).2.2.1   (List.getD es (0 + Int.toNat (Int.ofNat k)) (cod 5).d).2.2.2) 56]⟩)))))))))) (
  .need (((0 = 0 ∧ q = List.length r) ∧ (F.short r ∧ (List.length (List.getD es (0 + Int.toNat (Int.ofNat k)) (cod 5).d).2.2.1 ≤ 1000000000000000 ∧ List.length (List.getD es (0 + Int.toNat (Int.ofNat k)) (cod 5).d).2.2.2 ≤ 1000000000000000)))) (
  cond (!decide     (F.stE r (List.getD es (0 + Int.toNat (Int.ofNat k)) (cod 5).d).1         (List.getD es (0 + Int.toNat (Int.ofNat k)) (cod 5).d).2.1         (List.getD es (0 + Int.toNat (Int.ofNat k)) (cod 5).d).2.2.1         (List.getD es (0 + Int.toNat (Int.ofNat k)) (cod 5).d).2.2.2 =       0)) (
   .ret (.fin (.tup [.c (.own 1 0), .c (.int .i64 (Int.ofNat k)), .c (.int .i64 (F.stE r (List.getD es (0 + Int.toNat (Int.ofNat k)) (cod 5).d).1   (List.getD es (0 + Int.toNat (Int.ofNat k)) (cod 5).d).2.1   (List.getD es (0 + Int.toNat (Int.ofNat k)) (cod 5).d).2.2.1   (List.getD es (0 + Int.toNat (Int.ofNat k)) (cod 5).d).2.2.2))]) [.own 1 [] 56])) (
   .need (i64ok (Int.ofNat k + 1)) (
   .ret (.cut (cutAt Tryz.f8 8) ⟨tmG 32 [(1, .c (.slc 0 0 (List.length es) es_t)), (6, .c (.own 3 (List.length   (F.stR r (List.getD es (0 + Int.toNat (Int.ofNat k)) (cod 5).d).1     (List.getD es (0 + Int.toNat (Int.ofNat k)) (cod 5).d).2.1     (List.getD es (0 + Int.toNat (Int.ofNat k)) (cod 5).d).2.2.1     (List.getD es (0 + Int.toNat (Int.ofNat k)) (cod 5).d).2.2.2)))), (14, .c (.slc 0 0 (List.length es) es_t)), (0, .c (.int .i64 (Int.ofNat (List.length es)))), (0, .c (.int .i64 (Int.ofNat k + 1)))], [.inp 5 es, .own 1 r 56, .blk [.int .i64 ((List.getD es (0 + Int.toNat (Int.ofNat k)) (cod 5).d).1), .int .i64 ((List.getD es (0 + Int.toNat (Int.ofNat k)) (cod 5).d).2.1), .str ((List.getD es (0 + Int.toNat (Int.ofNat k)) (cod 5).d).2.2.1), .str ((List.getD es (0 + Int.toNat (Int.ofNat k)) (cod 5).d).2.2.2)] 31, .own 1 (F.stR r (List.getD es (0 + Int.toNat (Int.ofNat k)) (cod 5).d).1   (List.getD es (0 + Int.toNat (Int.ofNat k)) (cod 5).d).2.1   (List.getD es (0 + Int.toNat (Int.ofNat k)) (cod 5).d).2.2.1   (List.getD es (0 + Int.toNat (Int.ofNat k)) (cod 5).d).2.2.2) 56]⟩)))))))) (
 .ret (.fin (.tup [.c (.own 1 (q)), .c (.int .i64 0), .c (.int .i64 0)]) [.own 1 r 56])) := by kernel_rfl



theorem run_run (es : List (Int × Int × List UInt8 × List UInt8)) (es_t : Bool) (b0 : Base) (hb : b0.n = 1) (h0 : es = F.ents 1 (F.txs es) ∧ F.okTs (F.txs es)) : Sym.Runs Tryz.prog b0 [.code (codeOf Tryz.f8)] ⟨argsS Tryz.f8 [.c .nil, .c (.slc 0 0 (List.length es) es_t)], ([.inp 5 es] : Heap cod)⟩ (Sym.Ends Tryz.prog Tryz.f8 1 (.tup [.c (.own 1 (List.length (F.runT [] (F.txs es)))), .c (.int .i64 0), .c (.int .i64 0)]) [.own 1 (F.runT [] (F.txs es)) 56]) := by
  have d5 : (cod 5).d = F.e0 := rfl
  obtain ⟨he, hok, hl⟩ := h0
  generalize F.txs es = l at *
  subst he
  have el : (F.ents 1 l).length = l.length := ents_len 1 l
  have key : ∀ (d k : Nat) (r : List F.Row) (q : Nat), k + d = l.length → r = F.runT [] (l.take k) → q = r.length →
      Sym.Runs Tryz.prog b0 (cutAt Tryz.f8 8) (st_run_8 (F.ents 1 l) es_t k r q) (Sym.Ends Tryz.prog Tryz.f8 1 (.tup [.c (.own 1 (List.length (F.runT [] l))), .c (.int .i64 0), .c (.int .i64 0)]) [.own 1 (F.runT [] l) 56]) := by
    intro d
    induction d with
    | zero =>
      intro k r q hk hr hq
      rw [show k = l.length by omega, List.take_length] at hr
      subst hr
      subst hq
      refine Runs.go (cfg := Cfg.maybe C_step) (CfgFit.maybe L_step_ok) mixed cuts_run 400 hb (run_t8 (F.ents 1 l) es_t k (F.runT [] l) (F.runT [] l).length) ?_
      simp only [T.wp, T.wp_cond, Aft, Int.ofNat_eq_natCast, decide_eq_true_eq, and_true, true_and, Nat.zero_add, Bool.not_eq_true', decide_eq_false_iff_not]
      exact ite_no (by omega) (by first | trivial | exact ⟨rfl, rfl⟩)
    | succ d ih =>
      intro k r q hk hr hq
      have hkl : k < l.length := by omega
      have g : List.getD (F.ents 1 l) k F.e0 = (((1 + k : Nat) : Int), 0, F.kSet, l.getD k []) := ents_get l 1 k hkl
      have hx := hok (l.getD k []) (by rw [List.getD_eq_getElem?_getD, List.getElem?_eq_getElem hkl]; exact List.getElem_mem _)
      have h4 := hx.2.2.2
      obtain ⟨c1, c2⟩ := runT_ok (l.take k) [] (fun x hx => hok x (List.mem_of_mem_take hx)) (by decide) (by rw [List.length_take, List.length_nil]; omega)
      have hs := runT_succ l k hkl
      rw [← hr] at c1 c2 hs
      rw [List.length_take, List.length_nil] at c2
      obtain ⟨s1, s2⟩ := step_set c1 (by omega) (n := ((1 + k : Nat) : Int)) (by omega) hx
      have nx := ih (k + 1) (F.runT [] (l.take (k + 1))) _ (by omega) rfl rfl
      rw [hs, ← s2] at nx
      have hsh := chk_short c1
      have hk3 : F.kSet.length = 3 := rfl
      have A : (List.length F.kSet ≤ 1000000000000000 ∧ (l.getD k []).length ≤ 1000000000000000) := ⟨by rw [hk3]; decide, by omega⟩
      refine Runs.go (cfg := Cfg.maybe C_step) (CfgFit.maybe L_step_ok) mixed cuts_run 400 hb (run_t8 (F.ents 1 l) es_t k r q) ?_
      simp only [T.wp, T.wp_cond, Aft, Int.ofNat_eq_natCast, decide_eq_true_eq, true_and, Nat.zero_add, Bool.not_eq_true', decide_eq_false_iff_not, Int.toNat_natCast, d5, g]
      refine ite_yes (by omega) ⟨⟨by omega, by omega⟩, by omega, ?_⟩
      have B := fun (X : Prop) (hX : X) => hX
      by_cases c0 : 0 < k
      · have g2 : List.getD (F.ents 1 l) ((k : Int) - 1).toNat F.e0 = (((1 + (k - 1) : Nat) : Int), 0, F.kSet, l.getD (k - 1) []) := by
          rw [show ((k : Int) - 1).toNat = k - 1 by omega]
          exact ents_get l 1 (k - 1) (by omega)
        rw [g2]
        refine ite_yes (by omega) ⟨by unfold i64ok; omega, ⟨by omega, by omega⟩, by omega, by unfold i64ok; dsimp only; omega, ?_⟩
        refine ite_no (by simp only [Decidable.not_not]; omega) ?_
        refine ⟨⟨hq, hsh, A⟩, ite_no (by rw [s1]; simp) ⟨by unfold i64ok; omega, ?_⟩⟩
        exact Runs.turn [0, 3] 25 hb (by decide) rfl rfl rfl nx
      · refine ite_no (by omega) ?_
        refine ⟨⟨hq, hsh, A⟩, ite_no (by rw [s1]; simp) ⟨by unfold i64ok; omega, ?_⟩⟩
        exact Runs.turn [0, 3] 25 hb (by decide) rfl rfl rfl nx
  refine Runs.go (cfg := Cfg.maybe C_step) (CfgFit.maybe L_step_ok) mixed cuts_run 400 hb (run_t0 (F.ents 1 l) es_t) ?_
  refine Runs.madeS 0 1 56 rfl rfl ?_
  refine Runs.weaken (st' := st_run_r1b (F.ents 1 l) es_t) (fun a w hR => hR) ?_
  refine Runs.go (cfg := Cfg.maybe C_step) (CfgFit.maybe L_step_ok) mixed cuts_run_r1b 400 hb (run_tr1b (F.ents 1 l) es_t) ?_
  simp only [T.wp, T.wp_cond, Aft, Int.ofNat_eq_natCast, decide_eq_true_eq, and_true, true_and]
  refine ⟨fun x hx => (by cases hx), ite_no (by omega) ?_⟩
  have A := key l.length 0 [] 0 (by omega) rfl rfl
  first
    | exact Runs.turn [0, 2] 25 hb (by decide) rfl rfl rfl A
    | exact ⟨by omega, Runs.turn [0, 2] 25 hb (by decide) rfl rfl rfl A⟩



noncomputable def s_run : Summ cod := fun args H => match args, H with
  | [.c .nil, .c (.slc 0 es_i es_n es_t)], [o0] => (match o0.asInp 5 with | some es => .need ((es_i = 0 ∧ es_n = List.length es) ∧ (es = F.ents 1 (F.txs es) ∧ F.okTs (F.txs es))) (.ret (.tup [.c (.own 1 (List.length (F.runT [] (F.txs es)))), .c (.int .i64 0), .c (.int .i64 0)], [.own 1 (F.runT [] (F.txs es)) 56])) | none => .fail)
  | _, _ => .fail


theorem run_sound : Sound Tryz.prog cod 8 s_run := sound_runs (cfg := C_step) L_step_ok mixed Tryz.func8 rfl rfl _ fun args H r news hg b0 hb => by
  unfold s_run at hg
  split at hg
  · skip
    split at hg
    · rename_i es hx0
      cases asInp_spec hx0
      simp only [T.gives, T.wp, Prod.mk.injEq] at hg
      obtain ⟨⟨⟨rfl, rfl⟩, q1⟩, rfl, rfl⟩ := hg
      exact run_run _ _ b0 hb (by assumption)
    · exact hg.elim
  · exact hg.elim

noncomputable def L_run : Sums cod := (8, .p s_run) :: L_step
noncomputable def C_run : Cfg cod := mkC L_run

theorem L_run_ok : Snd Tryz.prog cod L_run := .cons run_sound L_step_ok


end
end Go.Proofs.YtiolfkmkbccndaaGreatDoor
end
section
/- slices.Clone of a slice of strings with no elements: a slice with no elements comes back. -/
namespace Go.Proofs.YtiolfkmkbccndaaGreatDoor
open Go.ChangeShapes Go.WideShapes Go.ChangeAt Go.RowKit
set_option maxHeartbeats 4000000
theorem nil_eqlS (A : Option Addr) (n c : Nat) (w : World) : (binOp .eql 28 (.slice A n c) (.slice none 0 0)).run Tryz.prog w = .ok (.bool A.isNone) w := by
  have ht : Tryz.prog.underlying 28 = some (.slice 9) := by kernel_rfl
  have h1 : ∀ w d, (Op.equalIn (d + 1) 28 (.slice A n c) (.slice none 0 0)).run Tryz.prog w = .ok A.isNone w := fun w d => by cases A <;> simp [Op.equalIn, run_underlying ht]
  have h2 : ∀ w, (Op.equal 28 (.slice A n c) (.slice none 0 0)).run Tryz.prog w = .ok A.isNone w := fun w => h1 w 9999
  simp [binOp, h2]
set_option maxRecDepth 100000 in
theorem cloneS_none (c : Nat) (w : World) : Calls Tryz.prog 21 #[.slice none 0 c] w fun e w' => e = .returned (.slice none 0 0) ∧ w' = w := by
  go_enter Tryz.func21, Tryz.ntmps21
  go_wp2
  rw [nil_eqlS]
  go_wp2
  go_ret
  exact ⟨rfl, rfl⟩
set_option maxRecDepth 100000 in
theorem cloneS_zero (a : Addr) (c : Nat) (w : World) : Calls Tryz.prog 21 #[.slice (some a) 0 c] w fun e w' => ∃ A, e = .returned (.slice A 0 0) ∧ Below w.heap.size w w' ∧ w.drawn ≤ w'.drawn := by
  go_enter Tryz.func21, Tryz.ntmps21
  go_wp2
  rw [nil_eqlS]
  go_wp2
  go_ret
  exact ⟨_, rfl, Below.alloc (Below.refl _ _) (Nat.le_refl _) _, Nat.le_refl _⟩
end Go.Proofs.YtiolfkmkbccndaaGreatDoor
end
section
/- slices.Clone of a slice of messages with no elements: a slice with no elements comes back. -/
namespace Go.Proofs.YtiolfkmkbccndaaGreatDoor
open Go.ChangeShapes Go.WideShapes Go.ChangeAt Go.RowKit
set_option maxHeartbeats 4000000
theorem nil_eqlM (A : Option Addr) (n c : Nat) (w : World) : (binOp .eql 38 (.slice A n c) (.slice none 0 0)).run Tryz.prog w = .ok (.bool A.isNone) w := by
  have ht : Tryz.prog.underlying 38 = some (.slice 61) := by kernel_rfl
  have h1 : ∀ w d, (Op.equalIn (d + 1) 38 (.slice A n c) (.slice none 0 0)).run Tryz.prog w = .ok A.isNone w := fun w d => by cases A <;> simp [Op.equalIn, run_underlying ht]
  have h2 : ∀ w, (Op.equal 38 (.slice A n c) (.slice none 0 0)).run Tryz.prog w = .ok A.isNone w := fun w => h1 w 9999
  simp [binOp, h2]
set_option maxRecDepth 100000 in
theorem cloneM_none (c : Nat) (w : World) : Calls Tryz.prog 23 #[.slice none 0 c] w fun e w' => e = .returned (.slice none 0 0) ∧ w' = w := by
  go_enter Tryz.func23, Tryz.ntmps23
  go_wp2
  rw [nil_eqlM]
  go_wp2
  go_ret
  exact ⟨rfl, rfl⟩
set_option maxRecDepth 100000 in
theorem cloneM_zero (a : Addr) (c : Nat) (w : World) : Calls Tryz.prog 23 #[.slice (some a) 0 c] w fun e w' => ∃ A, e = .returned (.slice A 0 0) ∧ Below w.heap.size w w' ∧ w.drawn ≤ w'.drawn := by
  go_enter Tryz.func23, Tryz.ntmps23
  go_wp2
  rw [nil_eqlM]
  go_wp2
  go_ret
  exact ⟨_, rfl, Below.alloc (Below.refl _ _) (Nat.le_refl _) _, Nat.le_refl _⟩
end Go.Proofs.YtiolfkmkbccndaaGreatDoor
end
section
/- slices.Delete at api.StandbyMessage, in the library's own text. -/
namespace Go.Proofs.YtiolfkmkbccndaaGreatDoor
open Go.ChangeShapes Go.WideShapes Go.ChangeAt Go.RowKit RowW
set_option maxHeartbeats 8000000
theorem msg_under : Tryz.prog.underlying 38 = some (.slice 61) := by kernel_rfl
theorem msg_size : (Tryz.prog.info? 61).map (·.size) = some 4 := by kernel_rfl
theorem msg_sizeOf : ∀ w, (Go.sizeOf 61).run Tryz.prog w = .ok 4 w := fun w => by kernel_rfl
theorem msg_zero : ∀ w, (zeroValue 61).run Tryz.prog w = .ok (.agg #[.int .i64 0, .int .i64 0, .bool false, .string ⟨#[]⟩]) w := fun w => by kernel_rfl
set_option maxRecDepth 1000000 in
/-- One element is taken out: what is behind it moves to the left, the last place holds zero values. -/
theorem msg_delete (g n cap i : Nat) (cur : Array Value) (w : World) (hg : w.heap[g]? = some (.cells cur 61 (0, 0))) (hcs : cur.size = cap * 4) (hnc : n ≤ cap) (hm : cap ≤ 9223372036854775807) (hi : i < n) (h1 : ∀ v ∈ cur.toList.take (n * 4), v.oneCell' = true) :
    Calls Tryz.prog 36 #[.slice (some ⟨g, 0, none⟩) n cap, .int .i64 i, .int .i64 ((i : Int) + 1)] w fun e w' => e = .returned (.slice (some ⟨g, 0, none⟩) (n - 1) cap) ∧
      ∃ q, w' = ((w.drewN q).setCells g (i * 4) ((cur.toList.take (n * 4)).drop ((i + 1) * 4))).setCells g ((n - 1) * 4) [.int .i64 0, .int .i64 0, .bool false, .string ⟨#[]⟩] := by
  obtain ⟨i0, hi0, hsz⟩ : ∃ i0, Tryz.prog.info? 61 = some i0 ∧ i0.size = 4 := by
    cases h : Tryz.prog.info? 61 with
    | none => have := msg_size; rw [h] at this; cases this
    | some i0 => have := msg_size; rw [h] at this; exact ⟨i0, rfl, by simpa using this⟩
  obtain ⟨news, hnews⟩ : ∃ news, news = (cur.toList.take (n * 4)).drop ((i + 1) * 4) := ⟨_, rfl⟩
  have hnk : n * 4 ≤ cap * 4 := Nat.mul_le_mul_right _ hnc
  have hlen : news.length = (n - (i + 1)) * 4 := by
    rw [hnews, List.length_drop, List.length_take, Array.length_toList, Nat.sub_mul]
    omega
  have hgd : w.drew.heap[g]? = some (.cells cur 61 (0, 0)) := hg
  have hget : ∀ (t : Nat) u, news[t]? = some u → w.drew.cell? ⟨g, (i + 1) * 4 + t, none⟩ = some u := fun t u hu => by
    rw [(cell_at hgd _).1]
    rw [hnews, List.getElem?_drop, List.getElem?_take] at hu
    split at hu
    · rwa [Array.getElem?_toList] at hu
    · cases hu
  obtain ⟨A, hA, hsrc⟩ : ∃ A : Addr, (if cap = i + 1 then some (⟨g, 0, none⟩ : Addr) else some ⟨g, (i + 1) * 4, none⟩) = some A ∧ Hid (∀ t u, news[t]? = some u → w.drew.cell? (A.add t) = some u) := by
    by_cases h : cap = i + 1
    · refine ⟨⟨g, 0, none⟩, by simp [h], fun t u hu => ?_⟩
      have h0 : news.length = 0 := by rw [hlen, show n - (i + 1) = 0 by omega, Nat.zero_mul]
      rw [List.length_eq_zero_iff.1 h0] at hu
      simp at hu
    · exact ⟨⟨g, (i + 1) * 4, none⟩, by simp [h], fun t u hu => by rw [Addr.add_lit]; exact hget t u hu⟩
  have s2 : Hid (∀ u ∈ news, u.oneCell' = true) := fun u hu => h1 u (by rw [hnews] at hu; exact List.mem_of_mem_drop hu)
  have hik : (i + 1) * 4 ≤ n * 4 := Nat.mul_le_mul_right _ (by omega)
  have s3 : Hid (∀ t, t < news.length → (w.drew.cell? ⟨g, 0 + i * 4 + t, none⟩).isSome = true ∧ w.drew.frozen? ⟨g, 0 + i * 4 + t, none⟩ = false) := fun t ht => by
    rw [hlen, Nat.sub_mul] at ht
    rw [Nat.zero_add]
    rw [Nat.add_mul] at hik ht
    refine ⟨?_, (cell_at hgd _).2⟩
    rw [(cell_at hgd _).1, Array.getElem?_eq_getElem (by rw [hcs]; omega)]
    rfl
  obtain ⟨W1, hW1⟩ : ∃ W1, W1 = w.drew.setCells g (0 + i * 4) news := ⟨_, rfl⟩
  have hg1 : W1.heap[g]? = some (.cells (ovl cur (0 + i * 4) news) 61 (0, 0)) := by rw [hW1]; exact heap_setCells _ _ _ _ hgd
  have hn1 : n - 1 + 1 = n := by omega
  have hcl : ∀ ty c, (Builtin.clear_ #[38] ty #[.slice (some ⟨g, (n - 1) * 4, none⟩) 1 c]).run Tryz.prog W1 = .ok (.tuple #[]) (W1.setCells g ((n - 1) * 4) [.int .i64 0, .int .i64 0, .bool false, .string ⟨#[]⟩]) := fun ty c =>
    run_clear_1 W1 38 61 ty _ [.int .i64 0, .int .i64 0, .bool false, .string ⟨#[]⟩] msg_under msg_zero (by kernel_rfl) (by simp [Value.oneCell']) g _ c
      (fun j hj => by
        rw [(cell_at hg1 _).1, Array.getElem?_eq_getElem (by
          rw [ovl_size, hcs]
          simp only [List.length_cons, List.length_nil] at hj
          have : (n - 1) * 4 + 4 ≤ cap * 4 := by
            have := Nat.mul_le_mul_right 4 (show n - 1 + 1 ≤ cap by omega)
            rw [Nat.add_mul] at this
            omega
          omega)]
        rfl)
      (fun j _ => (cell_at hg1 _).2)
  have hW : Hid (W1 = w.drew.setCells g (0 + i * 4) news) := hW1
  have X : Hid (news = (cur.toList.take (n * 4)).drop ((i + 1) * 4)) := hnews
  have s1 : Hid (news.length = (n - (i + 1)) * 4) := hlen
  have hic : i ≤ cap := by omega
  have hjc : i + 1 ≤ cap := by omega
  have hin : i ≤ n := by omega
  have hi1n : i + 1 ≤ n := by omega
  have hb1 : (0 : Int) ≤ (i : Int) + 1 := by omega
  have hb2 : (i : Int) + 1 ≤ (n : Int) := by omega
  have hb3 : ((i : Int) + 1).toNat = i + 1 := by omega
  have mixed : Tryz.prog.follows .mixedOrders = true := by kernel_rfl
  have he1 : n - (n - 1) = 1 := by omega
  have he2 : i + (n - (i + 1)) = n - 1 := by omega
  have he3 : n - 1 ≤ n := by omega
  have he4 : n - 1 ≤ cap := by omega
  have he5 : ¬ (cap = n - 1) := by omega
  clear hW1 hnews hg1 hget hlen hgd hik hnk hn1
  go_enter Tryz.func36, Tryz.ntmps36
  go_wp2_with fail
  go_region_law_o (refine step_append_room rfl (.tmp 22) (.tmp 25) 38 rfl 61 i0 4 msg_under hi0 hsz g 0 i cap (by simp [Act.eval, Act.put]) A (n - (i + 1)) (cap - (i + 1)) news (by simp [Act.eval, Act.put]) s1.out hsrc.out s2.out (by omega) s3.out ?_; rw [← hW.out])
  go_wp2
  go_ret
  refine ⟨rfl, 1, ?_⟩
  rw [hW.out, X.out, Nat.zero_add]
  rfl
end Go.Proofs.YtiolfkmkbccndaaGreatDoor
end
