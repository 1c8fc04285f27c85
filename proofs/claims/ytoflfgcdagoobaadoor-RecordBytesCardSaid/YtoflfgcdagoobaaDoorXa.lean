/- Part of a claim: lemmas on the way to its theorem; each states its own conditions. -/
import Derived.Test.YtoflfgcdagoobaaDoorSym20
import Derived.Test.YtoflfgcdagoobaaDoorSym22
import Derived.Test.YtoflfgcdagoobaaDoorAr
import Derived.Test.YtoflfgcdagoobaaDoorRows
namespace Go.Proofs.YtoflfgcdagoobaaDoor
open Sym Go.RowKit
noncomputable section
def intC : Codec where
  α := Int
  enc := fun x => [.int .i64 x]
  dec := fun l => match l with | [.int _ a0] => a0 | _ => 0
  ok := fun l => match l with | [.int .i64 _] => true | _ => false
  size := 1
  d := 0
  size_eq := fun _ => rfl
  scal := fun _ => rfl
  ok_spec := fun e h => by
    split at h
    · rfl
    · cases h
  pos := Nat.zero_lt_succ _
def rowC : Codec where
  α := List UInt8 × List UInt8
  enc := fun x => [.str x.1, .str x.2]
  dec := fun l => match l with | [.str a0, .str a1] => (a0, a1) | _ => ([], [])
  ok := fun l => match l with | [.str _, .str _] => true | _ => false
  size := 2
  d := ([], [])
  size_eq := fun _ => rfl
  scal := fun _ => rfl
  ok_spec := fun e h => by
    split at h
    · rfl
    · cases h
  pos := Nat.zero_lt_succ _
def strC : Codec where
  α := List UInt8
  enc := fun x => [.str x]
  dec := fun l => match l with | [.str a0] => a0 | _ => []
  ok := fun l => match l with | [.str _] => true | _ => false
  size := 1
  d := []
  size_eq := fun _ => rfl
  scal := fun _ => rfl
  ok_spec := fun e h => by
    split at h
    · rfl
    · cases h
  pos := Nat.zero_lt_succ _
def u8C : Codec where
  α := Int
  enc := fun x => [.int .u8 x]
  dec := fun l => match l with | [.int _ a0] => a0 | _ => 0
  ok := fun l => match l with | [.int .u8 _] => true | _ => false
  size := 1
  d := 0
  size_eq := fun _ => rfl
  scal := fun _ => rfl
  ok_spec := fun e h => by
    split at h
    · rfl
    · cases h
  pos := Nat.zero_lt_succ _
def boolC : Codec where
  α := Bool
  enc := fun x => [.bool x]
  dec := fun l => match l with | [.bool a0] => a0 | _ => false
  ok := fun l => match l with | [.bool _] => true | _ => false
  size := 1
  d := false
  size_eq := fun _ => rfl
  scal := fun _ => rfl
  ok_spec := fun e h => by
    split at h
    · rfl
    · cases h
  pos := Nat.zero_lt_succ _
noncomputable def cod : Nat → Codec
  | 0 => intC
  | 1 => rowC
  | 2 => strC
  | 3 => u8C
  | 4 => boolC
  | _ => intC
def ctags : List (TypeId × Nat) := [(3, 0), (50, 1), (9, 2), (5, 3), (4, 4)]
def ctg (t : TypeId) : Option Nat := (ctags.find? fun p => p.1 == t).map (·.2)
def loud : List FuncId := [8, 32, 9, 18, 26, 44, 27, 33, 34, 52]
set_option maxRecDepth 100000
set_option maxHeartbeats 4000000
noncomputable def mkC (L : Sums cod) : Cfg cod := { P := Tryd.prog, ctag := ctg, summ := lookS L, summI := lookI L, quiet := fun g => !loud.contains g, wrap := false }
noncomputable def mkW (L : Sums cod) : Cfg cod := { P := Tryd.prog, ctag := ctg, summ := lookS L, summI := lookI L, quiet := fun g => !loud.contains g, wrap := true }
noncomputable def L_0 : Sums cod := []
noncomputable def C_0 : Cfg cod := mkC L_0


theorem L_0_ok : Snd Tryd.prog cod L_0 := .nil
theorem mixed : Tryd.prog.follows .mixedOrders = true := by kernel_rfl

namespace F
def inb (n lo hi : Int) : Bool := decide (lo ≤ n) && decide (n ≤ hi)
end F

noncomputable def s_in : Summ cod := fun args H => match H with
  | [] => match rd args with
    | some [[n], [lo], [hi]] => (.ret (.c (.bool (F.inb n lo hi)), []))
    | _ => .fail
  | _ => .fail

theorem in_tree (n lo hi : Int) : symF C_0 [] Tryd.f39.results.toList (List.length ([] : Heap cod)) 400 [.code (codeOf Tryd.f39)] ⟨argsS Tryd.f39 [.c (.int .i64 n), .c (.int .i64 lo), .c (.int .i64 hi)], []⟩ =
 cond (decide (lo ≤ n)) (
 .ret (.fin (.c (.bool (decide (n ≤ hi)))) [])) (
 .ret (.fin (.c (.bool false)) [])) := by kernel_rfl

theorem in_sound : Sound Tryd.prog cod 39 s_in := sound_flat (cfg := C_0) L_0_ok mixed Tryd.func39 rfl rfl _ 400 fun args H r news hg => by
  unfold s_in at hg
  split at hg
  · split at hg
    · rename_i n lo hi hrd
      have hargs := rd_spec hrd
      simp only [List.map, wr1, ints, List.tail] at hargs
      subst hargs
      clear hrd
      rw [in_tree]
      try simp only [T.gives, T.wp, Prod.mk.injEq] at hg
      obtain ⟨rfl, rfl⟩ := hg
      simp only [T.wp, T.wp_cond, Fin.fin.injEq, SV.c.injEq, Cell.bool.injEq, Cell.int.injEq, and_true, true_and, decide_eq_true_eq, F.inb]
      (repeat' split) <;> simp_all <;> omega
    · exact hg.elim
  · exact hg.elim

noncomputable def L_in : Sums cod := (39, .p s_in) :: L_0
noncomputable def C_in : Cfg cod := mkC L_in

theorem L_in_ok : Snd Tryd.prog cod L_in := .cons in_sound L_0_ok

end
end Go.Proofs.YtoflfgcdagoobaaDoor
