/- Parts of the proof, one behind the other: Sym3d, Sym0. -/
import Derived.Test.YtiolfkmkbccndaaGreatDoorSym2
import Derived.WalkKit
import Derived.Lib.ItoaNum
import Derived.Lib.TrailingZeros
section
/- The tape is drawn from forwards: no operation gives back what it has drawn. -/
namespace Go.Proofs.YtiolfkmkbccndaaGreatDoor.Sym
open Go.RowKit
theorem ask_drawn {α : Type} : ∀ (x : Ask α) (w : World), w.drawn ≤ (w.ask x).2.drawn
  | .done a, w => Nat.le_refl _
  | .ask what range k, w => by
    unfold World.ask
    simp only
    split
    · exact ask_drawn _ w
    · exact Nat.le_trans (Nat.le_succ _) (ask_drawn _ { w with drawn := w.drawn + 1 })
theorem sys_drawn (w : World) (c : Sys) : w.drawn ≤ (w.sys c).2.drawn := by
  unfold World.sys
  have h := ask_drawn (Kernel.perform c w.os) w
  split
  · exact Nat.le_refl _
  · rename_i r os w' e
    rw [e] at h
    exact h
theorem viewStore_drawn {p : Program} {w : World} {at_ : Addr} {u : TypeId} {k : Addr} {v : Value} {atomic : Bool} {r : World × List Addr} (h : w.viewStore p at_ u k v atomic = .ok r) : w.drawn ≤ r.1.drawn := by
  unfold World.viewStore at h
  simp only [bind, Except.bind, pure, Except.pure, throw, throwThe, MonadExceptOf.throw] at h
  (repeat' split at h) <;> first | (cases h; exact Nat.le_refl _) | cases h
theorem farStore_drawn {p : Program} {w : World} {a : Addr} {v : Value} {atomic : Bool} {r : World × List Addr} (h : w.farStore p a v atomic = .ok r) : w.drawn ≤ r.1.drawn := by
  unfold World.farStore at h
  split at h
  · split at h
    · rename_i hv
      cases h
      exact viewStore_drawn hv
    · cases h
  · cases h
theorem freeze_drawn (w : World) (a : Addr) (n : Nat) : (w.freeze a n).drawn = w.drawn := by
  unfold World.freeze
  split <;> rfl
theorem run_drawn {α : Type} (P : Program) : ∀ (s : Sem α) (w : World) (a : α) (w' : World), s.run P w = .ok a w' → w.drawn ≤ w'.drawn
  | .pure x, w, a, w', h => by
    simp only [Sem.run, Result.ok.injEq] at h
    rw [h.2]
    exact Nat.le_refl _
  | .load m x k, w, a, w', h => by
    simp only [Sem.run] at h
    split at h
    · exact run_drawn P _ w a w' h
    · split at h
      · exact run_drawn P _ w a w' h
      · cases h
  | .store m x v k, w, a, w', h => by
    cases v <;> simp only [Sem.run] at h <;> first
      | (cases h; done)
      | (split at h
         · split at h
           · cases h
           · have q := run_drawn P k _ a w' h
             exact q
         · split at h
           · rename_i hf
             have q := run_drawn P k _ a w' h
             exact Nat.le_trans (farStore_drawn hf) q
           · cases h)
  | .new o k, w, a, w', h => by
    simp only [Sem.run] at h
    have q := run_drawn P _ _ a w' h
    exact q
  | .shape r k, w, a, w', h => by
    simp only [Sem.run] at h
    exact run_drawn P _ _ a w' h
  | .freeze x n k, w, a, w', h => by
    simp only [Sem.run] at h
    have := run_drawn P k _ a w' h
    rw [freeze_drawn] at this
    exact this
  | .frozen x k, w, a, w', h => by
    simp only [Sem.run] at h
    exact run_drawn P _ _ a w' h
  | .getObj r k, w, a, w', h => by
    simp only [Sem.run] at h
    split at h
    · cases h
    · exact run_drawn P _ _ a w' h
    · cases h
  | .setObj r o k, w, a, w', h => by
    simp only [Sem.run] at h
    split at h
    · cases h
    · have q := run_drawn P k _ a w' h
      exact q
    · cases h
  | .choose q k, w, a, w', h => by
    simp only [Sem.run] at h
    split at h
    · exact run_drawn P _ _ a w' h
    · exact Nat.le_trans (Nat.le_succ _) (run_drawn P _ _ a w' h)
  | .sys c k, w, a, w', h => by
    simp only [Sem.run] at h
    exact Nat.le_trans (sys_drawn w c) (run_drawn P _ _ a w' h)
  | .program k, w, a, w', h => by
    simp only [Sem.run] at h
    exact run_drawn P _ _ a w' h
  | .mark m k, w, a, w', h => by
    simp only [Sem.run] at h
    exact run_drawn P k _ a w' h
  | .halt x, w, a, w', h => by
    simp only [Sem.run] at h
    cases h
end Go.Proofs.YtiolfkmkbccndaaGreatDoor.Sym
end
section
/- The tables of the library that the world holds: blocks, and what their cells are. -/
namespace Go.Proofs.YtiolfkmkbccndaaGreatDoor.Sym
/-- One interface value. -/
def isErr (cs : Array Value) : Prop := ∃ tp p, cs = #[.iface tp p]
/-- internal/strconv.uint64pow10, math/bits.deBruijn64tab, strconv.ErrSyntax, strconv.ErrRange. -/
def tabs : List (Nat × (Array Value → Prop)) := [(1, fun cs => cs = (Lib.pow10Tab.map fun z => Value.int .u64 z).toArray), (7, fun cs => cs = (Lib.deBruijn64tab.map fun z : Nat => Value.int .u8 z).toArray), (4, isErr), (5, isErr)]
/-- What is kept count of beside the memory: nothing. -/
abbrev dl (_ : World) : Nat := 0
theorem dl_mono {w w' : World} (_ : w.drawn ≤ w'.drawn) : dl w ≤ dl w' := Nat.le_refl 0
end Go.Proofs.YtiolfkmkbccndaaGreatDoor.Sym
end
